/- The document's reader: joined tables, items, what binds most. -/
import Derived.Test.YteomefghofhkiaaGreatDoorRfPd
set_option maxRecDepth 100000
set_option maxHeartbeats 40000000
set_option linter.unusedVariables false
set_option linter.unusedSimpArgs false
namespace Go.AM.Rf
open Go.Proofs Go.AM.Ps Go.AM.W
theorem Rf.fn163:FnOk Tryz.prog 163 (fni Tryz.f163 Pr.a163):=⟨⟨Tryz.f163,Tryz.func163,rfl,rfl,rfl,by kernel_rfl⟩,by kernel_rfl⟩
theorem xdk{t:List Tk}(ht:Toks t)(hwd:Wd t){n:Nat}(hb:Ok t 86 [] (body t n) Nd.av)(htb:Ok t 153 [] (table t n) Nd.av):Ok t 163 [] (joined t (n+1)) Nd.av:=by
 refine Ok.of2 (fun _ _=>rfl) (fun a _ _=>zh _ _ a) fun tv htv z b y K hy hz hK=>?_
 unfold joined at hK
 have hgot:=fun s=>(zj ht.len s).lit
 simp only[← htv] at hgot
 have hmust:=fun s=>(jm ht.len s).lit
 simp only[← htv] at hmust
 have hname:=(qv ht hwd).lit
 rw[← htv] at hname
 have halias:=fun s=>(ycr ht hwd s).lit
 simp only[← htv] at halias
 have ho:=(vba ht n).lit
 rw[← htv] at ho
 have hb:=hb.litN
 rw[← htv] at hb
 have htb:=htb.litN
 rw[← htv] at htb
 have hl6:=ht.len
 clear htv
 apply ja (un:=0) Pr.tabOk Pr.mixed Rf.fn163 (nb rfl)
 apply qb (mk:=Pr.tab)
 intro fail _ _ _ _ _ _ _ _ _ _ _ _ _ _ _ _ _ _ _ _ _ _ _ _ not _ _ _ G
 have hnt:=G.not2
 generalize t.length=N at *
 cbv
 repeat' (first
  |(refine G.c' (ho _ _ _ _ _ hy rfl hz (nb rfl) (W.mono (W.bd hK) fun a z b hK hz y hy=>?_));cases a<;>cbv)
  |(refine G.c' (hgot _ _ _ _ _ _ hy rfl hz (nb rfl) (W.mono (W.bd hK) fun a z b hK hz y hy=>?_));cases a<;>cbv)
  |(refine G.c' (hmust _ _ _ _ _ _ hy rfl hz (nb rfl) (W.mono (W.bd hK) fun a z b hK hz y hy=>?_));cbv)
  |(refine G.c' (hname _ _ _ _ _ hy rfl hz (nb rfl) (W.mono (W.bd hK) fun a z b hK hz y hy=>?_));cbv)
  |(refine G.c' (halias _ _ _ _ _ _ hy rfl hz (nb rfl) (W.mono (W.bd hK) fun a z b hK hz y hy=>?_));cbv)
  |(refine G.c' (hb _ _ _ _ _ hy rfl hz (nb rfl) (W.mono (W.bd hK) fun a z b hK hz y hy cl hcl=>?_));obtain⟨o,s,k,l⟩:=a;cbv)
  |(refine G.c' (htb _ _ _ _ _ hy rfl hz (nb rfl) (W.mono (W.bd hK) fun a z b hK hz y hy cl hcl=>?_));obtain⟨o,s,k,l⟩:=a;cbv)
  |(refine G.c' (va [] (by exact rfl) (.inr rfl) (by simp) fun cl hcl=>?_);cbv)
  |(refine G.c' (va [.mk _ _ _ _] (by subst_vars;exact rfl) (.inl rfl) (by simp) fun cl hcl=>?_);cbv)
  |exact(W.rt hK).go hy hz (yd (by subst_vars;exact rfl)) rfl (nb rfl)
  |refine G.n' rfl ?_
  |refine G.s' rfl ?_
  |fail)
theorem Rf.fn152:FnOk Tryz.prog 152 (fni Tryz.f152 Pr.a152):=⟨⟨Tryz.f152,Tryz.func152,rfl,rfl,rfl,by kernel_rfl⟩,by kernel_rfl⟩
theorem jek{t:List Tk}(ht:Toks t)(hwd:Wd t){n:Nat}(he:Ok t 93 [] (expr t n) Nd.av):Ok t 152 [] (item t (n+1)) Nd.av:=by
 refine Ok.of2 (fun _ _=>rfl) (fun a _ _=>zh _ _ a) fun tv htv z b y K hy hz hK=>?_
 unfold item at hK
 have hgot:=fun s=>(zj ht.len s).lit
 simp only[← htv] at hgot
 have hname:=(qv ht hwd).lit
 rw[← htv] at hname
 have halias:=fun s=>(ycr ht hwd s).lit
 simp only[← htv] at halias
 have hnamed:=(ybx ht hwd 0 0 rfl (by omega)).lit
 rw[← htv] at hnamed
 have his:=fun(on:Nat) (y0:Int) s (h0:y0=on) (h1:on≤1000)=>(zby ht.len on y0 h0 h1 s).lit
 simp only[← htv] at his
 have hexpr:=he.litN
 rw[← htv] at hexpr
 clear htv
 have hl6:=ht.len
 have hN:∀ z,sees t z W.g_star=true→z+1≤t.length:=fun z h=>ybw h
 generalize t.length=N at *
 apply ja (un:=0) Pr.tabOk Pr.mixed Rf.fn152 (nb rfl)
 apply qb (mk:=Pr.tab)
 intro fail _ _ _ _ _ _ arith _ _ _ _ _ _ _ _ _ _ _ _ _ _ _ _ _ not _ _ _ G
 have hnt:=G.not2
 cbv
 refine G.c' (hgot _ _ _ _ _ _ hy rfl hz (nb rfl) (W.mono (W.bd hK) fun a z b hK hz y hy=>?_))
 cases a with
 |true=>
  cbv
  repeat' (first
   |(refine G.c' (va [] (by exact rfl) (.inr rfl) (by simp) fun cl hcl=>?_);cbv)
   |exact(W.rt hK).go hy hz (yd (by subst_vars;exact rfl)) rfl (nb rfl)
   |fail)
 |false=>
 cbv
 refine G.c' (hnamed _ _ _ _ _ hy rfl hz (nb rfl) (W.mono (W.bd hK) fun nm z b hK hz y hy=>?_))
 cbv
 refine G.c' (his 1 1 _ rfl (by decide) _ _ _ _ _ hy rfl hz (nb rfl) (W.mono (W.bd hK) fun dot z b hK hz y hy=>?_))
 cbv
 have hK2:=W.bd hK
 obtain⟨star,z',b',hm,hK⟩:=hK2
 have hm2:(!b && sees t (z+2) W.g_star)=star∧z=z'∧b=b':=by unfold isT at hm;simpa only[Option.some.injEq,Prod.mk.injEq] using hm
 obtain⟨h1,rfl,rfl⟩:=hm2
 refine G.c' (his 2 2 _ rfl (by decide) _ _ _ _ _ hy rfl hz (nb rfl) ⟨star,_,_,by rw[hm],fun hz y hy=>?_⟩)
 have hz3:star=true→z+3≤N:=fun h=>by
  rw[h,Bool.and_eq_true] at h1
  exact hN _ h1.2
 clear hm h1 hN
 have hbad:(nm && (dot && star))=true→star=true:=fun h=>by simp only[Bool.and_eq_true] at h;exact h.2.2
 cbv
 cases hall:(nm && (dot && star)) with
 |true=>
  simp only[Bool.and_eq_true] at hall
  have hF:=hK
  have hzF:=hz
  have hyF:=hy
  obtain⟨rfl,rfl,rfl⟩:=hall
  have hz3:=hz3 rfl
  have hK:=hF
  have hz:=hzF
  have hy:=hyF
  obtain⟨s,z1,b1,hn,hK⟩:=W.bd hK
  have hb:z1≤z+1:=by
   unfold name at hn
   split at hn<;>(simp only[Option.some.injEq,Prod.mk.injEq] at hn;omega)
  cbv
  refine G.c' (hname _ _ _ _ _ hy rfl hz (nb rfl) ⟨s,_,_,hn,fun hz y hy=>?_⟩)
  have htwo:arith BinOp.add IntKind.i64 y 2=y+2:=by rw[G.arith'];exact wrap_i64 _ (by omega) (by omega)
  cbv
  refine G.n' rfl ?_
  rw[htwo]
  obtain⟨y2,hy2⟩:∃ y2,y2=y+2:=⟨_,rfl⟩
  have hy4:y=(z1:Int):=hy
  have hy3:y2=((z1+2:Nat):Int):=by omega
  rw[← hy2]
  cbv
  refine G.c' (va [] (by exact rfl) (.inr rfl) (by simp) fun cl hcl=>?_)
  cbv
  obtain⟨a3,z3,b3,hm3,hK⟩:=hK
  obtain⟨rfl,rfl,rfl⟩:_∧_∧_:=by simpa using hm3
  exact FinL.go hK hy3 (by omega) (yd hcl) rfl (nb rfl)
 |false=>
  rw[hall] at hK
  have hF:=hK
  have hzF:=hz
  have hyF:=hy
  cases nm<;>cases dot<;>cases star<;>first
   |(exact absurd hall (by decide))
   |(clear hall hz3 hbad
     have hK:=hF
     have hz:=hzF
     have hy:=hyF
     cbv
     repeat' (first
      |(refine G.c' (hexpr _ _ _ _ _ hy rfl hz (nb rfl) (W.mono (W.bd hK) fun a z b hK hz y hy cl hcl=>?_));obtain⟨o,s,k,l⟩:=a;cbv)
      |(refine G.c' (halias _ _ _ _ _ _ hy rfl hz (nb rfl) (W.mono (W.bd hK) fun a z b hK hz y hy=>?_));cbv)
      |(refine G.c' (va [.mk _ _ _ _] (by subst_vars;exact rfl) (.inl rfl) (by simp) fun cl hcl=>?_);cbv)
      |exact(W.rt hK).go hy hz (yd (by subst_vars;exact rfl)) rfl (nb rfl)
      |refine G.n' rfl ?_
      |refine G.s' rfl ?_
      |fail))
end Go.AM.Rf
namespace Go.AM.Rf
open Go.Proofs Go.AM.Ps Go.AM.W
theorem Rf.fn185:FnOk Tryz.prog 185 (fni Tryz.f185 Pr.a185):=⟨⟨Tryz.f185,Tryz.func185,rfl,rfl,rfl,by kernel_rfl⟩,by kernel_rfl⟩
theorem yet{t:List Tk}(ht:Toks t){n:Nat}(hi:Ok t 173 [] (inner t n) Nd.av)(he:Ok t 93 [] (expr t n) Nd.av)(hca:Ok t 188 [] (cases t n) Nd.av)(hcl:Ok t 189 [] (call t n) Nd.av):Ok t 185 [] (one t (n+1)) Nd.av:=by
 refine Ok.of2 (fun _ _=>rfl) (fun a _ _=>zh _ _ a) fun tv htv z b y K hy hz hK=>?_
 unfold one at hK
 have hgot:=fun s=>(zj ht.len s).lit
 simp only[← htv] at hgot
 have hmust:=fun s=>(jm ht.len s).lit
 simp only[← htv] at hmust
 have hkind:=fun k=>(qby ht.len k).lit
 simp only[← htv] at hkind
 have hnum:=(xa0 ht).lit
 rw[← htv] at hnum
 have ho:=(vba ht n).lit
 rw[← htv] at ho
 have hinner:=hi.litN
 rw[← htv] at hinner
 have hexpr:=he.litN
 rw[← htv] at hexpr
 have hcases:=hca.litN
 rw[← htv] at hcases
 have hcall:=hcl.litN
 rw[← htv] at hcall
 have hl6:=ht.len
 have hkl:∀ z,Ps.isKind t 2 z=true→z+1≤t.length:=fun z h=>vbi h
 obtain⟨e,cs,m,hv,hcs,h41⟩:=qp t
 rw[hv] at htv
 have htok:∀ z,z+1≤t.length→∃ xk xt xn xa,t[z]? =some ⟨xk,xt,xn,xa⟩∧Ps.textAt t z=xt:=fun z h=>by
  obtain⟨⟨xk,xt,xn,xa⟩,hx⟩:∃ x,t[z]? =some x:=⟨_,List.getElem?_eq_getElem (by omega)⟩
  exact⟨xk,xt,xn,xa,hx,by unfold Ps.textAt;rw[hx]⟩
 have hne:∀ z,z+1≤t.length→e=41:=fun z h=>h41 (by rintro rfl;simp at h)
 have hcl6:cs.length=t.length:=by rw[hcs,List.length_map]
 have hget:∀ z xk xt xn xa,t[z]? =some ⟨xk,xt,xn,xa⟩→cs.getD z AV.undef= .agg [.int .i64 xk,.str xt,.int .i64 xn,.int .i64 xa]:=fun z xk xt xn xa h=>by
  rw[hcs,List.getD_eq_getElem?_getD,List.getElem?_map,h];rfl
 generalize t.length=N at *
 apply ja (un:=0) Pr.tabOk Pr.mixed Rf.fn185 (nb rfl)
 apply qb (mk:=Pr.tab)
 intro fail _ _ _ _ len _ arith _ _ _ _ _ _ _ elt _ _ _ _ _ _ inb _ _ not _ _ _ G
 have hnt:=G.not2
 cbv
 refine G.c' (hkind 1 _ _ _ _ _ hy rfl hz (nb rfl) (W.mono (W.bd hK) fun a z b hK hz y hy=>?_))
 cases a with
 |true=>
  cbv
  repeat' (first
   |(refine G.c' (hnum _ _ _ _ _ hy rfl hz (nb rfl) (W.mono (W.bd hK) fun a z b hK hz y hy=>?_));cbv)
   |(refine G.c' (va [] (by exact rfl) (.inr rfl) (by simp) fun cl hcl=>?_);cbv)
   |exact(W.rt hK).go hy hz (yd (by subst_vars;exact rfl)) rfl (nb rfl)
   |fail)
 |false=>
 cbv
 obtain⟨q,z',b',hm,hF⟩:=W.bd hK
 have hm2:(!b && Ps.isKind t 2 z)=q∧z=z'∧b=b':=by unfold kindT at hm;simpa only[Option.some.injEq,Prod.mk.injEq] using hm
 obtain⟨h1,rfl,rfl⟩:=hm2
 refine G.c' (hkind 2 _ _ _ _ _ hy rfl hz (nb rfl) ⟨q,_,_,hm,fun hz y hy=>?_⟩)
 have hy4:y=(z:Int):=hy
 cases q with
 |true=>
  rw[Bool.and_eq_true] at h1
  have hz1:=hkl z h1.2
  obtain⟨xk,xt,xn,xa,hx,htx⟩:=htok z hz1
  obtain rfl:=hne z hz1
  have hadd:arith BinOp.add IntKind.i64 y 1=y+1:=by rw[G.arith'];exact wrap_i64 _ (by omega) (by omega)
  have hsub:arith BinOp.sub IntKind.i64 (y+1) 1=y:=by rw[G.arith'];simp only[zaw];rw[wrap_i64 _ (by omega) (by omega)];omega
  have hin:inb y (len cs)=true:=by rw[G.inb',G.len'];simp;omega
  have hel:elt cs y= .agg [.int .i64 xk,.str xt,.int .i64 xn,.int .i64 xa]:=by
   rw[G.elt',← hget z xk xt xn xa hx];simp only[]
   rw[show y.toNat=z by omega]
  obtain⟨a3,z3,b3,hm3,hK⟩:=hF
  obtain⟨rfl,rfl,rfl⟩:_∧_∧_:=by simpa using hm3
  rw[htx] at hK
  obtain⟨y1,hy1⟩:∃ y1,y1=y+1:=⟨_,rfl⟩
  have hy5:y1=((z+1:Nat):Int):=by omega
  rw[← hy1] at hadd hsub
  subst htv
  clear hget htok hkl hne hx hm
  cbv
  refine G.n' rfl ?_
  rw[hadd]
  cbv
  refine G.n' rfl ?_
  rw[hsub]
  refine G.n' hin ?_
  rw[hel]
  cbv
  refine G.c' (va [] (by exact rfl) (.inr rfl) (by simp) fun cl hcl=>?_)
  cbv
  exact FinL.go hK hy5 (by omega) (yd hcl) rfl (nb rfl)
 |false=>
  have hK:=hF
  clear hget htok hkl hne
  cbv
  repeat' (first
   |(refine G.c' (hgot _ _ _ _ _ _ hy rfl hz (nb rfl) (W.mono (W.bd hK) fun a z b hK hz y hy=>?_));cases a<;>cbv)
   |(refine G.c' (hmust _ _ _ _ _ _ hy rfl hz (nb rfl) (W.mono (W.bd hK) fun a z b hK hz y hy=>?_));cbv)
   |(refine G.c' (ho _ _ _ _ _ hy rfl hz (nb rfl) (W.mono (W.bd hK) fun a z b hK hz y hy=>?_));cases a<;>cbv)
   |(refine G.c' (hinner _ _ _ _ _ hy rfl hz (nb rfl) (W.mono (W.bd hK) fun a z b hK hz y hy cl hcl=>?_));obtain⟨o,s,k,l⟩:=a;cbv)
   |(refine G.c' (hexpr _ _ _ _ _ hy rfl hz (nb rfl) (W.mono (W.bd hK) fun a z b hK hz y hy cl hcl=>?_));obtain⟨o,s,k,l⟩:=a;cbv)
   |(refine G.c' (hcases _ _ _ _ _ hy rfl hz (nb rfl) (W.mono hK fun a z b hK hz y hy cl hcl=>?_));obtain⟨o,s,k,l⟩:=a;cbv)
   |(refine G.c' (hcall _ _ _ _ _ hy rfl hz (nb rfl) (W.mono hK fun a z b hK hz y hy cl hcl=>?_));obtain⟨o,s,k,l⟩:=a;cbv)
   |(refine G.c' (va [] (by exact rfl) (.inr rfl) (by simp) fun cl hcl=>?_);cbv)
   |(refine G.c' (va [.mk _ _ _ _] (by subst_vars;exact rfl) (.inl rfl) (by simp) fun cl hcl=>?_);cbv)
   |exact(W.rt hK).go hy hz (yd (by subst_vars;exact rfl)) rfl (nb rfl)
   |exact FinL.go hK hy hz (yd (by subst_vars;exact rfl)) rfl (nb rfl)
   |refine G.n' rfl ?_
   |fail)
end Go.AM.Rf
namespace Go.AM.Rf
open Go.Proofs Go.AM.Ps Go.AM.W
section
variable (t:List Tk) (n:Nat)
def checkE:M Nd:=bd (must t k_check) fun _=>bd (must t g_par) fun _=>bd (expr t n) fun e=>bd (must t g_rap) fun _=>rt (.mk k_check [] 0 [e])
def rowE:M Nd:=bd (must t g_par) fun _=>bd (exprs t n) fun l=>bd (must t g_rap) fun _=>rt (.mk veu [] 0 l)
def level:M Nd:=bd (got t xap) fun q=>match q with
 |true=>bd (got t jao) fun u=>match u with
  |true=>rt (.mk vaa [] 0 [])
  |false=>bd (must t xbi) fun _=>rt (.mk vaa [] 1 [])
 |false=>bd (got t qai) fun q=>match q with
  |true=>bd (must t xap) fun _=>rt (.mk vaa [] 2 [])
  |false=>bd (must t zab) fun _=>rt (.mk vaa [] 3 [])
def key:M Nd:=bd (kindT t 1) fun k=>bd (match k with
 |true=>bd (number t) fun m=>rt (.mk qdl [] m [])
 |false=>column t) fun e=>bd (got t jbi) fun d=>match d with
 |true=>rt (.mk vbn jbi 0 [e])
 |false=>bd (got t zbz) fun _=>rt (.mk vbn zbz 0 [e])
def query:M Nd:=bd (body t n) fun b=>bd (got t qbi) fun q=>bd (match q with
 |true=>bd (must t k_by) fun _=>list t (key t) n
 |false=>rt []) fun l=>rt (.mk jbg [] 0 [b,.mk qbi [] 0 l])
def whose:M Nd:=bd (got t k_where) fun w=>match w with
 |false=>rt (.mk k_where [] 0 [])
 |true=>bd (got t ya1) fun c=>match c with
  |true=>bd (must t k_of) fun _=>bd (name t) fun s=>rt (.mk ya1 s 0 [])
  |false=>bd (expr t n) fun e=>rt (.mk k_where [] 0 [e])
def declareE:M Nd:=bd (name t) fun s=>bd (got t xct) fun sc=>bd (must t yba) fun _=>bd (must t zbi) fun _=>bd (query t n) fun q=>bd (got t zbi) fun f=>bd (match f with
 |false=>rt []
 |true=>bd (got t xap) fun r=>match r with
  |true=>bd (must t vct) fun _=>rt va5
  |false=>bd (must t k_update) fun _=>rt k_update) fun of=>rt (.mk k_declare s (match sc with|true=>1|false=>0) [q,.mk zbi of 0 []])
end
end Go.AM.Rf
namespace Go.AM.Rf
open Go.Proofs Go.AM.Ps Go.AM.W
theorem Rf.fn121:FnOk Tryz.prog 121 (fni Tryz.f121 Pr.a121):=⟨⟨Tryz.f121,Tryz.func121,rfl,rfl,rfl,by kernel_rfl⟩,by kernel_rfl⟩
theorem vcr{t:List Tk}(ht:Toks t){n:Nat}(he:Ok t 93 [] (expr t n) Nd.av):Ok t 121 [] (checkE t n) Nd.av:=by
 refine Ok.of2 (fun _ _=>rfl) (fun a _ _=>zh _ _ a) fun tv htv z b y K hy hz hK=>?_
 unfold checkE at hK
 have hmust:=fun s=>(jm ht.len s).lit
 simp only[← htv] at hmust
 have he:=he.litN
 rw[← htv] at he
 have hl6:=ht.len
 clear htv
 apply ja (un:=0) Pr.tabOk Pr.mixed Rf.fn121 (nb rfl)
 apply qb (mk:=Pr.tab)
 intro fail _ _ _ _ _ _ _ _ _ _ _ _ _ _ _ _ _ _ _ _ _ _ _ _ not _ _ _ G
 have hnt:=G.not2
 generalize t.length=N at *
 cbv
 repeat' (first
  |(refine G.c' (hmust _ _ _ _ _ _ hy rfl hz (nb rfl) (W.mono (W.bd hK) fun a z b hK hz y hy=>?_));cbv)
  |(refine G.c' (he _ _ _ _ _ hy rfl hz (nb rfl) (W.mono (W.bd hK) fun a z b hK hz y hy cl hcl=>?_));obtain⟨o,s,k,l⟩:=a;cbv)
  |(refine G.c' (va [.mk _ _ _ _] (by subst_vars;exact rfl) (.inl rfl) (by simp) fun cl hcl=>?_);cbv)
  |exact(W.rt hK).go hy hz (yd (by subst_vars;exact rfl)) rfl (nb rfl)
  |refine G.n' rfl ?_
  |fail)
theorem Rf.fn94:FnOk Tryz.prog 94 (fni Tryz.f94 Pr.a94):=⟨⟨Tryz.f94,Tryz.func94,rfl,rfl,rfl,by kernel_rfl⟩,by kernel_rfl⟩
theorem jd4{t:List Tk}(ht:Toks t):Ok t 94 [] (level t) Nd.av:=by
 refine Ok.of2 (fun _ _=>rfl) (fun a _ _=>zh _ _ a) fun tv htv z b y K hy hz hK=>?_
 unfold level at hK
 have hgot:=fun s=>(zj ht.len s).lit
 simp only[← htv] at hgot
 have hmust:=fun s=>(jm ht.len s).lit
 simp only[← htv] at hmust
 have hl6:=ht.len
 clear htv
 apply ja (un:=0) Pr.tabOk Pr.mixed Rf.fn94 (nb rfl)
 apply qb (mk:=Pr.tab)
 intro fail _ _ _ _ _ _ _ _ _ _ _ _ _ _ _ _ _ _ _ _ _ _ _ _ not _ _ _ G
 have hnt:=G.not2
 generalize t.length=N at *
 cbv
 repeat' (first
  |(refine G.c' (hgot _ _ _ _ _ _ hy rfl hz (nb rfl) (W.mono (W.bd hK) fun a z b hK hz y hy=>?_));cases a<;>cbv)
  |(refine G.c' (hmust _ _ _ _ _ _ hy rfl hz (nb rfl) (W.mono (W.bd hK) fun a z b hK hz y hy=>?_));cbv)
  |(refine G.c' (va [] (by exact rfl) (.inr rfl) (by simp) fun cl hcl=>?_);cbv)
  |exact(W.rt hK).go hy hz (yd (by subst_vars;exact rfl)) rfl (nb rfl)
  |(rw[hnt];cbv)
  |fail)
theorem Rf.fn87:FnOk Tryz.prog 87 (fni Tryz.f87 Pr.a87):=⟨⟨Tryz.f87,Tryz.func87,rfl,rfl,rfl,by kernel_rfl⟩,by kernel_rfl⟩
theorem zeu{t:List Tk}(ht:Toks t)(hwd:Wd t):Ok t 87 [] (key t) Nd.av:=by
 refine Ok.of2 (fun _ _=>rfl) (fun a _ _=>zh _ _ a) fun tv htv z b y K hy hz hK=>?_
 unfold key at hK
 have hgot:=fun s=>(zj ht.len s).lit
 simp only[← htv] at hgot
 have hkind:=fun k=>(qby ht.len k).lit
 simp only[← htv] at hkind
 have hnum:=(xa0 ht).lit
 rw[← htv] at hnum
 have hcol:=(zbg ht hwd).litN
 rw[← htv] at hcol
 have hl6:=ht.len
 clear htv
 apply ja (un:=0) Pr.tabOk Pr.mixed Rf.fn87 (nb rfl)
 apply qb (mk:=Pr.tab)
 intro fail _ _ _ _ _ _ _ _ _ _ _ _ _ _ _ _ _ _ _ _ _ _ _ _ not _ _ _ G
 have hnt:=G.not2
 generalize t.length=N at *
 cbv
 repeat' (first
  |(refine G.c' (hkind _ _ _ _ _ _ hy rfl hz (nb rfl) (W.mono (W.bd hK) fun a z b hK hz y hy=>?_));cases a<;>cbv)
  |(refine G.c' (hgot _ _ _ _ _ _ hy rfl hz (nb rfl) (W.mono (W.bd hK) fun a z b hK hz y hy=>?_));cases a<;>cbv)
  |(refine G.c' (hnum _ _ _ _ _ hy rfl hz (nb rfl) (W.mono (W.bd (W.as hK)) fun a z b hK hz y hy=>?_));cbv)
  |(refine G.c' (hcol _ _ _ _ _ hy rfl hz (nb rfl) (W.mono (W.bd hK) fun a z b hK hz y hy cl hcl=>?_));obtain⟨o,s,k,l⟩:=a;cbv)
  |(refine G.c' (va [] (by exact rfl) (.inr rfl) (by simp) fun cl hcl=>?_);cbv)
  |(refine G.c' (va [.mk _ _ _ _] (by subst_vars;exact rfl) (.inl rfl) (by simp) fun cl hcl=>?_);cbv)
  |exact(W.rt hK).go hy hz (yd (by subst_vars;exact rfl)) rfl (nb rfl)
  |refine G.n' rfl ?_
  |fail)
theorem Rf.fn59:FnOk Tryz.prog 59 (fni Tryz.f59 Pr.a59):=⟨⟨Tryz.f59,Tryz.func59,rfl,rfl,rfl,by kernel_rfl⟩,by kernel_rfl⟩
theorem jcr{t:List Tk}(ht:Toks t)(hwd:Wd t){n:Nat}(he:Ok t 93 [] (expr t n) Nd.av):Ok t 59 [] (whose t n) Nd.av:=by
 refine Ok.of2 (fun _ _=>rfl) (fun a _ _=>zh _ _ a) fun tv htv z b y K hy hz hK=>?_
 unfold whose at hK
 have hgot:=fun s=>(zj ht.len s).lit
 simp only[← htv] at hgot
 have hmust:=fun s=>(jm ht.len s).lit
 simp only[← htv] at hmust
 have hname:=(qv ht hwd).lit
 rw[← htv] at hname
 have he:=he.litN
 rw[← htv] at he
 have hl6:=ht.len
 clear htv
 apply ja (un:=0) Pr.tabOk Pr.mixed Rf.fn59 (nb rfl)
 apply qb (mk:=Pr.tab)
 intro fail _ _ _ _ _ _ _ _ _ _ _ _ _ _ _ _ _ _ _ _ _ _ _ _ not _ _ _ G
 have hnt:=G.not2
 generalize t.length=N at *
 cbv
 repeat' (first
  |(refine G.c' (hgot _ _ _ _ _ _ hy rfl hz (nb rfl) (W.mono (W.bd hK) fun a z b hK hz y hy=>?_));cases a<;>cbv)
  |(refine G.c' (hmust _ _ _ _ _ _ hy rfl hz (nb rfl) (W.mono (W.bd hK) fun a z b hK hz y hy=>?_));cbv)
  |(refine G.c' (hname _ _ _ _ _ hy rfl hz (nb rfl) (W.mono (W.bd hK) fun a z b hK hz y hy=>?_));cbv)
  |(refine G.c' (he _ _ _ _ _ hy rfl hz (nb rfl) (W.mono (W.bd hK) fun a z b hK hz y hy cl hcl=>?_));obtain⟨o,s,k,l⟩:=a;cbv)
  |(refine G.c' (va [] (by exact rfl) (.inr rfl) (by simp) fun cl hcl=>?_);cbv)
  |(refine G.c' (va [.mk _ _ _ _] (by subst_vars;exact rfl) (.inl rfl) (by simp) fun cl hcl=>?_);cbv)
  |exact(W.rt hK).go hy hz (yd (by subst_vars;exact rfl)) rfl (nb rfl)
  |(rw[hnt];cbv)
  |refine G.n' rfl ?_
  |fail)
theorem Rf.fn92:FnOk Tryz.prog 92 (fni Tryz.f92 Pr.a92):=⟨⟨Tryz.f92,Tryz.func92,rfl,rfl,rfl,by kernel_rfl⟩,by kernel_rfl⟩
theorem vet{t:List Tk}(ht:Toks t){n:Nat}(hn:n≤1000000000)(hes:Ok t 124 [] (exprs t n) lav):Ok t 92 [] (rowE t n) Nd.av:=by
 refine Ok.of2 (fun _ _=>rfl) (fun a _ _=>zh _ _ a) fun tv htv z b y K hy hz hK=>?_
 unfold rowE at hK
 have hmust:=fun s=>(jm ht.len s).lit
 simp only[← htv] at hmust
 have hes:=hes.litL
 rw[← htv] at hes
 have hl6:=ht.len
 clear htv
 apply ja (un:=0) Pr.tabOk Pr.mixed Rf.fn92 (nb rfl)
 apply qb (mk:=Pr.tab)
 intro fail _ _ _ _ _ _ _ _ _ _ _ _ _ _ _ _ _ _ _ _ _ _ _ _ not _ _ _ G
 have hnt:=G.not2
 have hlen:=fun a z b z' b' h=>exprs_len (t:=t) hn a z b z' b' h
 generalize t.length=N at *
 cbv
 repeat' (first
  |(refine G.c' (hmust _ _ _ _ _ _ hy rfl hz (nb rfl) (W.mono (W.bd hK) fun a z b hK hz y hy=>?_));cbv)
  |(refine G.c' (hes _ _ _ _ _ hy rfl hz (nb rfl) (W.mono (W.with (W.bd hK) fun a z' b' h=>hlen a z _ z' b' h) fun a z b hK hz y hy cl hcl=>?_));obtain⟨hne,hK⟩:=hK;cbv)
  |(refine G.c' (va _ hcl (.inl rfl) (by exact hne) fun cl hcl=>?_);cbv)
  |exact(W.rt hK).go hy hz (yd (by subst_vars;exact rfl)) rfl (nb rfl)
  |fail)
theorem Rf.fn95:FnOk Tryz.prog 95 (fni Tryz.f95 Pr.a95):=⟨⟨Tryz.f95,Tryz.func95,rfl,rfl,rfl,by kernel_rfl⟩,by kernel_rfl⟩
theorem qc4{t:List Tk}(ht:Toks t)(hwd:Wd t){n:Nat}(hq:Ok t 51 [] (query t n) Nd.av):Ok t 95 [] (declareE t n) Nd.av:=by
 refine Ok.of2 (fun _ _=>rfl) (fun a _ _=>zh _ _ a) fun tv htv z b y K hy hz hK=>?_
 unfold declareE at hK
 have hgot:=fun s=>(zj ht.len s).lit
 simp only[← htv] at hgot
 have hmust:=fun s=>(jm ht.len s).lit
 simp only[← htv] at hmust
 have hname:=(qv ht hwd).lit
 rw[← htv] at hname
 have hq:=hq.litN
 rw[← htv] at hq
 have hl6:=ht.len
 clear htv
 apply ja (un:=0) Pr.tabOk Pr.mixed Rf.fn95 (nb rfl)
 apply qb (mk:=Pr.tab)
 intro fail _ _ _ _ _ _ _ _ _ _ _ _ _ _ _ _ _ _ _ _ _ _ _ _ not _ _ _ G
 have hnt:=G.not2
 generalize t.length=N at *
 cbv
 repeat' (first
  |(refine G.c' (hgot _ _ _ _ _ _ hy rfl hz (nb rfl) (W.mono (W.bd hK) fun a z b hK hz y hy=>?_));cases a<;>cbv)
  |(refine G.c' (hgot _ _ _ _ _ _ hy rfl hz (nb rfl) (W.mono (W.bd (W.as hK)) fun a z b hK hz y hy=>?_));cases a<;>cbv)
  |(refine G.c' (hmust _ _ _ _ _ _ hy rfl hz (nb rfl) (W.mono (W.bd hK) fun a z b hK hz y hy=>?_));cbv)
  |(refine G.c' (hmust _ _ _ _ _ _ hy rfl hz (nb rfl) (W.mono (W.bd (W.as hK)) fun a z b hK hz y hy=>?_));cbv)
  |(refine G.c' (hname _ _ _ _ _ hy rfl hz (nb rfl) (W.mono (W.bd hK) fun a z b hK hz y hy=>?_));cbv)
  |(refine G.c' (hq _ _ _ _ _ hy rfl hz (nb rfl) (W.mono (W.bd hK) fun a z b hK hz y hy cl hcl=>?_));obtain⟨o,s,k,l⟩:=a;cbv)
  |(refine G.c' (va [] (by exact rfl) (.inr rfl) (by simp) fun cl hcl=>?_);cbv)
  |(refine G.c' (va [.mk _ _ _ _,.mk _ _ _ _] (by subst_vars;exact rfl) (.inl rfl) (by simp) fun cl hcl=>?_);cbv)
  |exact(W.rt hK).go hy hz (yd (by subst_vars;exact rfl)) rfl (nb rfl)
  |refine G.n' rfl ?_
  |refine G.s' rfl ?_
  |fail)
end Go.AM.Rf
