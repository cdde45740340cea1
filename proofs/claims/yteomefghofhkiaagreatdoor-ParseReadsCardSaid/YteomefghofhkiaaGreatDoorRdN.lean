/- What parse.Parse answers at any text; the document's reserved words. -/
import Derived.Test.YteomefghofhkiaaGreatDoorRdM
import Derived.Test.YteomefghofhkiaaGreatDoorRdScanD
import Derived.Test.YteomefghofhkiaaGreatDoorRdA
set_option maxRecDepth 100000
set_option linter.unusedVariables false
set_option maxHeartbeats 40000000
set_option linter.unusedSimpArgs false
namespace Go.AM.Ps
open Go.Proofs W
theorem zbu{s:List UInt8}(hs:s.length≤2000):∀ {p:Nat} {l:List Tk},Chain s p l→∀ x ∈ l,x.t.length≤2000∧0≤x.n∧x.n<9223372036854775808:=by
 intro p l h
 induction h with
 |nil p=>intro x hx;simp at hx
 |cons p t l j hlt ht hj hle h ih=>
  intro x hx
  rcases List.mem_cons.1 hx with rfl|hx
  ·cases ht with
   |word w hw hl h32=>exact⟨by simp;omega,by simp,by simp⟩
   |num hd v hv=>exact⟨by simp,by simp,by simp;omega⟩
   |text b j hb h4=>exact⟨by simp;omega,by simp,by simp⟩
   |sign y hy hp=>
    refine⟨?_,by simp,by simp⟩
    have hp:=List.isPrefixOf_iff_prefix.1 hp
    have:=hp.length_le
    simp at this
    show y.length≤2000
    omega
  ·exact ih x hx
theorem xbv(s:List UInt8):Toks (ze s).1:=by
 by_cases h:(ze s).2=jf
 ·obtain⟨h1,h2,h3⟩:=jb9 s h
  exact⟨h2,fun x hx=>(zbu h1 h3 x hx).1,fun x hx=>(zbu h1 h3 x hx).2⟩
 ·have:=(zas s).2.2 h
  rw[this]
  exact⟨by simp,fun x hx=>by simp at hx,fun x hx=>by simp at hx⟩
def qn:Nat:=100000
theorem jdj(n:Nat)(h1:30 * (600+1)+40≤n)(h2:n≤1000000000)(s:List UInt8)(S:St)(K:Out→St→Prop)(hK:K (.ret (.tup [(zl n s).1.av,.str (zl n s).2])) S):jb Tryz.prog (Pr.tab real) 8 [.str s] S K:=by
 have ht:=xbv s
 have hl:=ht.len
 have hr:Res (ze s).1 0 xe (statement qa (ze s).1 n 0):=zan (by omega) h2
 exact parse_spec n h2 s ht (fun h=>hr.1 h) (fun a z h=>(hr.2 a z h).2.2) S K hK
theorem zd3(s:List UInt8)(S:St)(K:Out→St→Prop)(hK:K (.ret (.tup [(zl qn s).1.av,.str (zl qn s).2])) S):jb Tryz.prog (Pr.tab real) 8 [.str s] S K:=
 jdj qn (nb rfl) (nb rfl) s S K hK
end Go.AM.Ps
namespace Go.AM.Ps
open Go.Proofs W
theorem Ps.fn18:FnOk Tryz.prog 18 (fni Tryz.f18 Pr.a18):=⟨⟨Tryz.f18,Tryz.func18,rfl,rfl,rfl,by kernel_rfl⟩,by kernel_rfl⟩
noncomputable def c18a:Code:=(fni Tryz.f18 Pr.a18).loop 0
noncomputable def c18b:Code:=(fni Tryz.f18 Pr.a18).loop 1
theorem zen:qf 42 Pr.a18 c18a=true:=by kernel_rfl
theorem qen:qf 42 Pr.a18 c18b=true:=by kernel_rfl
theorem qde(K:Ex→Env→St→Prop)(env:Env)(S:St)(h:xg (pAlg Tryz.prog (Pr.tab real) 42) (Pr.tab real) Pr.a18 0 c18a (andThen (za Tryz.prog (Pr.tab real) 42 c18a K) K) env S):za Tryz.prog (Pr.tab real) 42 c18a K env S:=
 vc Pr.tabOk Pr.mixed zen h
theorem ydd(K:Ex→Env→St→Prop)(env:Env)(S:St)(h:xg (pAlg Tryz.prog (Pr.tab real) 42) (Pr.tab real) Pr.a18 0 c18b (andThen (za Tryz.prog (Pr.tab real) 42 c18b K) K) env S):za Tryz.prog (Pr.tab real) 42 c18b K env S:=
 vc Pr.tabOk Pr.mixed qen h
theorem vae(b:UInt8)(l p:List UInt8):Lib.contains (b::l) p=(p.isPrefixOf (b::l) || Lib.contains l p):=by
 unfold Lib.contains
 conv=>lhs;unfold Lib.index
 cases h:p.isPrefixOf (b::l) with
 |true=>simp
 |false=>
  have:=Lib.index_ge l p
  simp only[Bool.false_eq_true,if_false,Bool.false_or]
  cases h2:(Lib.index l p == -1) with
  |true=>
   have:Lib.index l p= -1:=by simpa using h2
   simp[this]
  |false=>
   have:Lib.index l p≠ -1:=by simpa using h2
   simp only[Bool.false_eq_true,if_false]
   rw[Bool.eq_iff_iff];simp only[decide_eq_true_eq];omega
theorem zak(p:List UInt8):∀ l:List UInt8,l.length<p.length→Lib.contains l p=false
 | [],h=>by
  cases p with
  |nil=>simp at h
  |cons a p=>rfl
 |b::l,h=>by
  rw[vae,zak p l (by simp at h;omega)]
  cases hp:p.isPrefixOf (b::l) with
  |false=>rfl
  |true=>
   have:=(List.isPrefixOf_iff_prefix.1 hp).length_le
   omega
theorem xdy(p:List UInt8):∀ l:List UInt8,(l.take p.length == p)=p.isPrefixOf l:=by
 intro l
 rw[Bool.eq_iff_iff,beq_iff_eq,List.isPrefixOf_iff_prefix,List.prefix_iff_eq_take]
 exact eq_comm
theorem no32(K:Ex→Env→St→Prop)(S:St)(w T:List UInt8)(hw:w.length≤2000)(h32:∀ c ∈ w,c≠32)(hK:K (.exit 0) [(0,.str w),(3,.str T)] S)(m:Nat) :
 ∀(i:Nat) (y:Int),y=i→i+m=w.length→za Tryz.prog (Pr.tab real) 42 c18a (Less K) [(0,.str w),(3,.str T),(4,.int .i64 y)] S:=by
 induction m with
 |zero=>
  intro i y hy hi
  apply qde
  apply xb (mk:=Pr.tab)
  intro fail need same call loop len slen arith shift cmp conv eqS ltS cat app elt byt subS subL strOf isB fit inb cut room not and eqB avs G
  have hb:cmp BinOp.lss y (slen w)=false:=by rw[G.cmp',G.slen'];simp[vb];omega
  generalize hL:za Tryz.prog (Pr.tab real) 42 c18a (Less K)=L
  generalize hK':Less K=K'
  clear hy hi
  cbv
  refine G.n' rfl ?_
  rw[hb]
  cbv
  rw[← hK']
  exact⟨[(0,.str w),(3,.str T)],.cons rfl (.cons rfl (.nil _)),hK⟩
 |succ m ih=>
  intro i y hy hi
  have hlt:i<w.length:=by omega
  have hgo:=ih (i+1) (y+1) (by omega) (by omega)
  clear ih
  obtain⟨c,hc⟩:∃ c,w[i]=c:=⟨_,rfl⟩
  have hc32:=h32 c (by rw[← hc];exact List.getElem_mem hlt)
  apply qde
  apply xb (mk:=Pr.tab)
  intro _ _ _ _ _ _ slen arith _ cmp _ _ _ _ _ _ byt _ _ _ _ _ inb _ _ _ _ _ _ G
  have hb:cmp BinOp.lss y (slen w)=true:=by rw[G.cmp',G.slen'];simp[vb];omega
  have hin:inb y (slen w)=true:=by rw[G.inb',G.slen'];simp;omega
  have heq:cmp BinOp.eql (byt w y) 32=false:=by
   rw[G.cmp',G.byt',hy];simp only[vb,Int.toNat_natCast]
   have:w.getD i 0=c:=by simp[List.getD_eq_getElem?_getD,hlt,hc]
   rw[this,Bool.eq_false_iff]
   simp only[ne_eq,beq_iff_eq]
   intro e
   exact hc32 (UInt8.toNat_inj.1 (by show c.toNat=32;omega))
  have hone:arith BinOp.add IntKind.i64 y 1=y+1:=by rw[G.arith'];exact wrap_i64 _ (by omega) (by omega)
  generalize hL:za Tryz.prog (Pr.tab real) 42 c18a (Less K)=L at hgo ⊢
  generalize hK':Less K=K' at hL ⊢
  generalize y+1=y1 at *
  clear hy hi hlt hc
  cbv
  refine G.n' rfl ?_
  rw[hb]
  cbv
  refine G.n' hin (G.n' rfl ?_)
  rw[heq]
  cbv
  refine G.n' rfl ?_
  rw[hone]
  rw[← hL] at hgo ⊢
  exact za.weak (.cons rfl (.cons rfl (.cons rfl (.nil _)))) hgo
theorem zev(K:Ex→Env→St→Prop)(S:St)(w T ww:List UInt8)(hw:w≠[])(hww:ww.length≤2002)(hww1:1≤ww.length)(hT:T.length≤100000)(m:Nat) :
 ∀(i:Nat) (y:Int),y=i→i+m=T.length→(Lib.contains (T.drop i) ww=true→K .ret [(2,.bool true)] S)→(Lib.contains (T.drop i) ww=false→K (.exit 2) [] S) →
  za Tryz.prog (Pr.tab real) 42 c18b (Less K) [(0,.str w),(3,.str T),(5,.str ww),(6,.int .i64 y)] S:=by
 induction m with
 |zero=>
  intro i y hy hi hK1 hK2
  have hK2:=hK2 (zak ww _ (by simp;omega))
  apply ydd
  apply xb (mk:=Pr.tab)
  intro fail need same call loop len slen arith shift cmp conv eqS ltS cat app elt byt subS subL strOf isB fit inb cut room not and eqB avs G
  have ha:arith BinOp.add IntKind.i64 y (slen ww)=y+ww.length:=by rw[G.arith',G.slen'];show IntKind.i64.wrap (y+(ww.length:Int))=_;exact wrap_i64 _ (by omega) (by omega)
  have hb:cmp BinOp.leq (arith BinOp.add IntKind.i64 y (slen ww)) (slen T)=false:=by rw[ha,G.cmp',G.slen'];simp[vb];omega
  generalize hL:za Tryz.prog (Pr.tab real) 42 c18b (Less K)=L
  generalize hK':Less K=K'
  clear hy hi hK1 ha
  cbv
  refine G.n' rfl (G.n' rfl ?_)
  rw[hb]
  cbv
  rw[← hK']
  exact⟨[],.nil _,hK2⟩
 |succ m ih=>
  intro i y hy hi hK1 hK2
  have hlt:i<T.length:=by omega
  have hdrop:T.drop i=T[i]::T.drop (i+1):=List.drop_eq_getElem_cons hlt
  apply ydd
  apply xb (mk:=Pr.tab)
  intro _ _ _ _ _ _ slen arith _ cmp _ eqS _ _ _ _ _ subS _ _ _ _ _ cut _ not _ _ _ G
  obtain⟨z,hz⟩:∃ z:Int,z=y+ww.length:=⟨_,rfl⟩
  have ha:arith BinOp.add IntKind.i64 y (slen ww)=z:=by rw[G.arith',G.slen',hz];show IntKind.i64.wrap (y+(ww.length:Int))=_;exact wrap_i64 _ (by omega) (by omega)
  have hb:cmp BinOp.leq z (slen T)=decide (i+ww.length≤T.length):=by rw[G.cmp',G.slen',hz,hy];simp only[vb];rw[Bool.eq_iff_iff];simp only[decide_eq_true_eq];omega
  have hne:not (eqS w [])=true:=by rw[G.not',G.eqS'];cases w with|nil=>exact absurd rfl hw|cons a l=>rfl
  have hcut:i+ww.length≤T.length→cut y z (slen T)=true:=fun h=>by rw[G.cut',G.slen',hz,hy];simp;omega
  have hsub:eqS (subS T y z) ww=ww.isPrefixOf (T.drop i):=by
   rw[G.eqS',G.subS',← xdy,hz,hy]
   simp only[Int.toNat_natCast]
   rw[show ((i:Int)+(ww.length:Int)-(i:Int)).toNat=ww.length by omega]
  have hone:arith BinOp.add IntKind.i64 y 1=y+1:=by rw[G.arith'];exact wrap_i64 _ (by omega) (by omega)
  have hfar:¬ i+ww.length≤T.length→K (.exit 2) [] S:=fun h=>hK2 (zak ww _ (by simp;omega))
  have hyes:ww.isPrefixOf (T.drop i)=true→K .ret [(2,.bool true)] S:=fun h=>hK1 (by rw[hdrop] at h ⊢;rw[vae,h];rfl)
  have hgo:ww.isPrefixOf (T.drop i)=false→za Tryz.prog (Pr.tab real) 42 c18b (Less K) [(0,.str w),(3,.str T),(5,.str ww),(6,.int .i64 (y+1))] S:=fun h=>by
   rw[hdrop] at h hK1 hK2
   rw[vae,h,Bool.false_or] at hK1 hK2
   exact ih (i+1) (y+1) (by omega) (by omega) hK1 hK2
  clear ih hK1 hK2
  generalize hL:za Tryz.prog (Pr.tab real) 42 c18b (Less K)=L at hgo ⊢
  generalize hK':Less K=K' at hL ⊢
  generalize y+1=y1 at *
  generalize ww.isPrefixOf (T.drop i)=pre at *
  obtain⟨dd,hdd⟩:∃ dd,decide (i+ww.length≤T.length)=dd:=⟨_,rfl⟩
  rw[hdd] at hb
  have hcut:dd=true→cut y z (slen T)=true:=fun h=>hcut (by rw[h] at hdd;simpa using hdd)
  have hfar:dd=false→K (.exit 2) [] S:=fun h=>hfar (by rw[h] at hdd;simpa using hdd)
  clear hy hi hlt hdrop hz hdd
  cbv
  refine G.n' rfl (G.n' rfl ?_)
  rw[ha,hb]
  cases dd with
  |false=>
   have hfar:=hfar rfl
   cbv
   rw[← hK']
   exact⟨[],.nil _,hfar⟩
  |true=>
   have hcut:=hcut rfl
   cbv
   rw[hne]
   cbv
   refine G.n' rfl ?_
   rw[ha]
   refine G.n' hcut ?_
   rw[hsub]
   cases pre with
   |true=>
    have hyes:=hyes rfl
    cbv
    rw[← hK']
    exact⟨[(2,.bool true)],.cons rfl (.nil _),hyes⟩
   |false=>
    have go:=hgo rfl
    cbv
    refine G.n' rfl ?_
    rw[hone]
    rw[← hL] at go ⊢
    exact za.weak (.cons rfl (.cons rfl (.cons rfl (.cons rfl (.nil _))))) go
theorem ybt:∀ w:List UInt8,(∀ c ∈ w,c≠32)→Lib.contains w [32]=false
 | [],_=>rfl
 |c::w,h=>by
  rw[vae,ybt w fun x hx=>h x (by simp[hx])]
  have:=h c (by simp)
  have:(32 == c)=false:=by simpa using Ne.symm this
  simp[List.isPrefixOf,this]
theorem jcc(w:List UInt8)(hw:w.length≤2000)(h0:w≠[])(h32:∀ c ∈ w,c≠32)(S:St)(K:Out→St→Prop)(hK:K (.ret (.bool (qa w))) S):jb Tryz.prog (Pr.tab real) 18 [.str w] S K:=by
 refine jb.lift (K0:=fun o _=>o= .ret (.bool (qa w))) rfl ?_ (by rintro o S0 rfl;exact hK)
 have hrb:qa w=Lib.contains vm (32::w++[32]):=by
  unfold qa
  rw[ybt w h32]
  cases w with
  |nil=>exact absurd rfl h0
  |cons a l=>rfl
 have hT:vm.length≤100000:=by decide
 apply ja (un:=0) Pr.tabOk Pr.mixed Ps.fn18 (nb rfl)
 apply qb (mk:=Pr.tab)
 intro _ _ _ _ _ _ _ _ _ _ _ _ _ cat _ _ _ _ _ _ _ fit _ _ _ _ _ _ _ G
 have hc:cat (cat [32] w) [32]=32::w++[32]:=by rw[G.cat'];rfl
 have hf1:fit [32] w=true:=by rw[G.fit'];simp;omega
 have hf2:fit (cat [32] w) [32]=true:=by rw[G.fit',G.cat'];simp;omega
 rw[hrb]
 generalize hK':(fun(o:Out) (_:St)=>o= .ret (.bool (Lib.contains vm (32::w++[32]))))=K0
 have hfin:∀ b S,Lib.contains vm (32::w++[32])=b→K0 (.ret (.bool b)) S:=fun b S h=>by rw[← hK',h]
 clear hrb hK' hK
 have hwl:(32::w++[32]).length=w.length+2:=by simp
 cbv
 refine G.l' ?_
 change za Tryz.prog (Pr.tab real) 42 c18a _ _ _
 refine za.relax (za.weak (env':=[(0,.str w),(3,.str vm),(4,.int .i64 0)]) (.cons rfl (.cons rfl (.cons rfl (.nil _)))) ?_)
 generalize vm=T at *
 refine no32 _ _ w T hw h32 ?_ w.length 0 0 rfl (by omega)
 generalize 32::w++[32]=ww at *
 cbv
 refine G.n' hf1 (G.n' hf2 ?_)
 rw[hc]
 cbv
 refine G.l' ?_
 change za Tryz.prog (Pr.tab real) 42 c18b _ _ _
 refine za.relax (za.weak (env':=[(0,.str w),(3,.str T),(5,.str ww),(6,.int .i64 0)]) (.cons rfl (.cons rfl (.cons rfl (.cons rfl (.nil _))))) ?_)
 refine zev _ _ w T ww h0 (by omega) (by omega) hT T.length 0 0 rfl (by omega) (fun h=>?_) (fun h=>?_)
 ·exact hfin _ _ h
 ·cbv
  exact hfin _ _ h
end Go.AM.Ps
