/- The parser's functions: lists that are kept, statements, first part. -/
import Derived.Test.YteomefghofhkiaaGreatDoorRdH
import Derived.Test.YteomefghofhkiaaGreatDoorRdPlain
set_option maxRecDepth 100000
set_option maxHeartbeats 40000000
set_option linter.unusedVariables false
set_option linter.unusedSimpArgs false
namespace Go.AM
theorem jb.ext{P:Program}{T:Tab}{f:FuncId}{args:List AV}{S S':St}{K:Out→St→Prop}(hr:∀ o,S'.row o=S.row o)(hn:S'.next=S.next)(hc:S'.caps=S.caps)(h:jb P T f args S' K):jb P T f args S K:=by
 intro g w vs r hg ha
 have r':WRel T g S' w:=⟨fun o b e=>by rw[hr];exact r.obj o b e,r.inj,fun o b e=>by rw[hn];exact r.dom o b e,r.apart,r.live,fun k tk e=>by rw[hc];exact r.tok k tk e,r.tinj⟩
 have key:∀ e w',vj T g S' w K e w'→vj T g S w K e w':=by
  intro e w' h
  unfold vj at h ⊢
  rw[hn] at h
  exact h
 rcases h g w vs r' hg ha with ⟨h1,h2⟩|⟨x,w',h1,h2⟩
 ·exact .inl ⟨h1,Calls.mono h2 fun e w' q=>key e w' q⟩
 ·exact .inr ⟨x,w',h1,key _ _ h2⟩
end Go.AM
namespace Go.AM.Ps
open Go.Proofs W
def qcv(fid:FuncId)(cs:List AV)(m:Mode):Env:=[(0,.ptr 0 0),(1,.func fid [] [.ptr 1 0]),(5,.slice 24 cs m)]
theorem yck{t:List Tk}(ht:Toks t){fid:FuncId}{part:Nat→Rs Nd}(hp:Fn t fid [] part)(O:List (Nat × List AV))(nx:Nat)(K:Ex→Env→St→Prop)(n:Nat) :
 ∀(acc:List Nd) (cs:List AV) (m:Mode) (caps:List Int) (z:Nat) (r:List AV),cs=avL acc→Grows m cs caps→acc.length+n≤2000000000→At t z r→(listMore t part n acc z= .fuel→False) →
  (∀ l cl m' caps' z' r',listMore t part n acc z= .ok l z'→cl=avL l→Grows m' cl caps'→cl.length≤2000000001→At t z' r'→K (.exit 0) [(5,.slice 24 cl m')] ⟨(0,r')::O,nx+1,caps'⟩) →
  (∀ z' r' caps',listMore t part n acc z= .wrong→At t z' r'→K (.panic vg) [] ⟨(0,r')::O,nx+1,caps'⟩) →
  za Tryz.prog (Pr.tab real) 18 c43 (Less K) (jbo fid cs m) ⟨(0,r)::O,nx+1,caps⟩:=by
 induction n with
 |zero=>intro acc cs m caps z r _ _ _ _ hf;exact(hf rfl).elim
 |succ n ih=>
  intro acc cs m caps z r hcs hg hal h hf hK1 hK2
  have hlm:listMore t part (n+1) acc z=match sees t z g_comma with
   |true=>(part (z+1)).bind fun x z=>listMore t part n (acc++[x]) z
   |false=> .ok acc z:=rfl
  rw[hlm] at hf hK1 hK2
  have hask:=fun K a b=>qk ht (s:=g_comma) (S:=⟨(0,r)::O,nx+1,caps⟩) (o:=0) h (Nat.succ_pos _) (K:=K) a b
  cases hb:sees t z g_comma with
  |false=>
   rw[hb] at hK1 hask
   have hfin:=fun r' hr'=>hK1 acc cs m caps z r' rfl hcs hg (by rw[hcs,xd,List.length_map];omega) hr'
   apply qbq
   apply xb (mk:=Pr.tab)
   intro fail need same call loop len slen arith shift cmp conv eqS ltS cat app elt byt subS subL strOf isB fit inb cut room not and eqB avs G
   generalize za Tryz.prog (Pr.tab real) 18 c43 (Less K)=L at *
   generalize hK':Less K=K' at *
   clear hK1 hK2 ih
   unfold jbo at *
   cbv
   refine G.n' rfl (G.c' (hask _ (fun r' hs hr'=>nomatch hs) (fun r' hs hr'=>?_)))
   have hgo:=hfin r' hr'
   cbv
   rw[← hK']
   exact⟨[(5,.slice 24 cs m)],.cons rfl (.nil _),hgo⟩
  |true=>
   rw[hb] at hK1 hK2 hf hask
   have hpart:=fun(S:St) (o:Nat) K hz ho a b=>hp (z+1) S o K hz ho (fun q=>hf (by show (part (z+1)).bind _=_;rw[q];rfl)) a b
   have hnext:∀ op s k l z' r' cs' m' caps',part (z+1)= .ok (.mk op s k l) z'→cs'=avL (acc++[.mk op s k l])→Grows m' cs' caps'→At t z' r'→za Tryz.prog (Pr.tab real) 18 c43 (Less K) (jbo fid cs' m') ⟨(0,r')::O,nx+1,caps'⟩:=by
    intro op s k l z' r' cs' m' caps' hq hcs' hg' hr'
    rw[hq] at hK1 hK2 hf
    refine ih (acc++[Nd.mk op s k l]) cs' m' caps' z' r' hcs' hg' (by simp;omega) hr' hf hK1 hK2
   have hbad:∀ z' r' caps',part (z+1)= .wrong→At t z' r'→K (.panic vg) [] ⟨(0,r')::O,nx+1,caps'⟩:=by
    intro z' r' caps' hq hr'
    rw[hq] at hK2
    exact hK2 z' r' caps' rfl hr'
   have hlen:cs.length≤2000000000:=by rw[hcs,xd,List.length_map];omega
   have happ':∀ op s k l cl,cl=avL l→cs++[.agg [.str op,.str s,.int .i64 k,.slice 24 cl .no]]=avL (acc++[.mk op s k l]):=by
    intro op s k l cl hcl
    rw[hcs,hcl,xd acc,xd (acc++_),List.map_append];rfl
   apply qbq
   apply xb (mk:=Pr.tab)
   intro _ _ _ _ _ len _ _ _ cmp _ _ _ _ app _ _ _ _ _ _ _ _ _ room _ _ _ _ G
   have hX:∀ op s k l cl,cl=avL l→∃(cc:List AV) (nn:Int),app cs [.agg [.str op,.str s,.int .i64 k,.slice 24 cl .no]]=cc∧room (len cc) 64=true∧len cc=nn∧cc=avL (acc++[.mk op s k l])∧Grows (.own 0) cc [nn]:=by
    intro op s k l cl hcl
    refine⟨_,_,rfl,?_,rfl,?_,?_⟩
    ·rw[G.app',G.room',G.len'];simp;omega
    ·rw[G.app'];exact happ' op s k l cl hcl
    ·rw[G.app',G.len'];exact .own _ _ rfl
   have h01:∀ x,cmp BinOp.lss 0 (len [x])=true:=fun x=>by rw[G.cmp',G.len'];rfl
   have heqc:∀ n2:Int,n2=cs.length→cmp BinOp.eql n2 (len cs)=true:=fun n2 h=>by rw[G.cmp',G.len',h];simp[vb]
   generalize hL:za Tryz.prog (Pr.tab real) 18 c43 (Less K)=L at *
   generalize hK':Less K=K' at *
   clear hK1 hK2 ih hlm
   unfold jbo at *
   cases hg with
   |fresh v=>
    cbv
    refine G.n' rfl (G.c' (hask _ (fun r' hs hr'=>?_) (fun r' hs hr'=>nomatch hs)))
    cbv
    refine G.c' (hpart _ 0 _ hr' (Nat.succ_pos _) (fun op s k l cl z' r2 hq hcl hr2=>?_) (fun z' r2 hq hr2=>?_))
    ·obtain⟨cc,nn,h1,h2,h3,h4,h5⟩:=hX op s k l cl hcl
     have hgo:=hnext op s k l z' r2 _ _ _ hq h4 h5 hr2
     have h6:=h01 (AV.agg [.str op,.str s,.int .i64 k,.slice 24 cl .no])
     clear hX hnext hbad hpart hask
     cbv
     refine G.n' rfl ?_
     rw[h1]
     refine G.n' h2 (G.n' h6 ?_)
     rw[h3,← hL] at *
     exact za.weak (.cons rfl (.cons rfl (.cons rfl (.nil _)))) hgo
    ·have hgo:=fun c=>hbad z' r2 c hq hr2
     cbv
     rw[← hK']
     exact⟨[],.nil _,hgo _⟩
   |own cs n2 hn2=>
    have hq2:=heqc n2 hn2
    cbv
    refine G.n' rfl (G.c' (hask _ (fun r' hs hr'=>?_) (fun r' hs hr'=>nomatch hs)))
    cbv
    refine G.c' (hpart _ 0 _ hr' (Nat.succ_pos _) (fun op s k l cl z' r2 hq hcl hr2=>?_) (fun z' r2 hq hr2=>?_))
    ·obtain⟨cc,nn,h1,h2,h3,h4,h5⟩:=hX op s k l cl hcl
     have hgo:=hnext op s k l z' r2 _ _ _ hq h4 h5 hr2
     have h6:=h01 (AV.agg [.str op,.str s,.int .i64 k,.slice 24 cl .no])
     clear hX hnext hbad hpart hask
     cbv
     refine G.n' rfl ?_
     rw[h1]
     refine G.n' h2 (G.n' hq2 ?_)
     rw[h3,← hL] at *
     exact za.weak (.cons rfl (.cons rfl (.cons rfl (.nil _)))) hgo
    ·have hgo:=fun c=>hbad z' r2 c hq hr2
     cbv
     rw[← hK']
     exact⟨[],.nil _,hgo _⟩
theorem qcl{t:List Tk}(ht:Toks t){fid:FuncId}{part:Nat→Rs Nd}(hp:FnC t fid part)(O:List (Nat × List AV))(nx:Nat)(hO:vaq O 1=[.ptr 0 0])(K:Ex→Env→St→Prop)(n:Nat) :
 ∀(acc:List Nd) (cs:List AV) (m:Mode) (caps:List Int) (z:Nat) (r:List AV),cs=avL acc→Grows m cs caps→acc.length+n≤2000000000→At t z r→(listMore t part n acc z= .fuel→False) →
  (∀ l cl m' caps' z' r',listMore t part n acc z= .ok l z'→cl=avL l→Grows m' cl caps'→cl.length≤2000000001→At t z' r'→K (.exit 0) [(5,.slice 24 cl m')] ⟨(0,r')::O,nx+2,caps'⟩) →
  (∀ z' r' caps',listMore t part n acc z= .wrong→At t z' r'→K (.panic vg) [] ⟨(0,r')::O,nx+2,caps'⟩) →
  za Tryz.prog (Pr.tab real) 18 c43 (Less K) (qcv fid cs m) ⟨(0,r)::O,nx+2,caps⟩:=by
 induction n with
 |zero=>intro acc cs m caps z r _ _ _ _ hf;exact(hf rfl).elim
 |succ n ih=>
  intro acc cs m caps z r hcs hg hal h hf hK1 hK2
  have hlm:listMore t part (n+1) acc z=match sees t z g_comma with
   |true=>(part (z+1)).bind fun x z=>listMore t part n (acc++[x]) z
   |false=> .ok acc z:=rfl
  rw[hlm] at hf hK1 hK2
  have hask:=fun K a b=>qk ht (s:=g_comma) (S:=⟨(0,r)::O,nx+2,caps⟩) (o:=0) h (Nat.succ_pos _) (K:=K) a b
  cases hb:sees t z g_comma with
  |false=>
   rw[hb] at hK1 hask
   have hfin:=fun r' hr'=>hK1 acc cs m caps z r' rfl hcs hg (by rw[hcs,xd,List.length_map];omega) hr'
   apply qbq
   apply xb (mk:=Pr.tab)
   intro fail need same call loop len slen arith shift cmp conv eqS ltS cat app elt byt subS subL strOf isB fit inb cut room not and eqB avs G
   generalize za Tryz.prog (Pr.tab real) 18 c43 (Less K)=L at *
   generalize hK':Less K=K' at *
   clear hK1 hK2 ih
   unfold qcv at *
   cbv
   refine G.n' rfl (G.c' (hask _ (fun r' hs hr'=>nomatch hs) (fun r' hs hr'=>?_)))
   have hgo:=hfin r' hr'
   cbv
   rw[← hK']
   exact⟨[(5,.slice 24 cs m)],.cons rfl (.nil _),hgo⟩
  |true=>
   rw[hb] at hK1 hK2 hf hask
   have hpart:=fun(S:St) K hz (ho:0<S.next) (hb:S.row 1=[.ptr 0 0]) (ho1:1<S.next) a b=>hp (z+1) S 0 1 K (by decide) hz ho hb ho1 (fun q=>hf (by show (part (z+1)).bind _=_;rw[q];rfl)) a b
   have hnext:∀ op s k l z' r' cs' m' caps',part (z+1)= .ok (.mk op s k l) z'→cs'=avL (acc++[.mk op s k l])→Grows m' cs' caps'→At t z' r'→za Tryz.prog (Pr.tab real) 18 c43 (Less K) (qcv fid cs' m') ⟨(0,r')::O,nx+2,caps'⟩:=by
    intro op s k l z' r' cs' m' caps' hq hcs' hg' hr'
    rw[hq] at hK1 hK2 hf
    refine ih (acc++[Nd.mk op s k l]) cs' m' caps' z' r' hcs' hg' (by simp;omega) hr' hf hK1 hK2
   have hbad:∀ z' r' caps',part (z+1)= .wrong→At t z' r'→K (.panic vg) [] ⟨(0,r')::O,nx+2,caps'⟩:=by
    intro z' r' caps' hq hr'
    rw[hq] at hK2
    exact hK2 z' r' caps' rfl hr'
   have hlen:cs.length≤2000000000:=by rw[hcs,xd,List.length_map];omega
   have happ':∀ op s k l cl,cl=avL l→cs++[.agg [.str op,.str s,.int .i64 k,.slice 24 cl .no]]=avL (acc++[.mk op s k l]):=by
    intro op s k l cl hcl
    rw[hcs,hcl,xd acc,xd (acc++_),List.map_append];rfl
   apply qbq
   apply xb (mk:=Pr.tab)
   intro _ _ _ _ _ len _ _ _ cmp _ _ _ _ app _ _ _ _ _ _ _ _ _ room _ _ _ _ G
   have hX:∀ op s k l cl,cl=avL l→∃(cc:List AV) (nn:Int),app cs [.agg [.str op,.str s,.int .i64 k,.slice 24 cl .no]]=cc∧room (len cc) 64=true∧len cc=nn∧cc=avL (acc++[.mk op s k l])∧Grows (.own 0) cc [nn]:=by
    intro op s k l cl hcl
    refine⟨_,_,rfl,?_,rfl,?_,?_⟩
    ·rw[G.app',G.room',G.len'];simp;omega
    ·rw[G.app'];exact happ' op s k l cl hcl
    ·rw[G.app',G.len'];exact .own _ _ rfl
   have h01:∀ x,cmp BinOp.lss 0 (len [x])=true:=fun x=>by rw[G.cmp',G.len'];rfl
   have heqc:∀ n2:Int,n2=cs.length→cmp BinOp.eql n2 (len cs)=true:=fun n2 h=>by rw[G.cmp',G.len',h];simp[vb]
   generalize hL:za Tryz.prog (Pr.tab real) 18 c43 (Less K)=L at *
   generalize hK':Less K=K' at *
   clear hK1 hK2 ih hlm
   unfold qcv at *
   cases hg with
   |fresh v=>
    cbv
    refine G.n' rfl (G.c' (hask _ (fun r' hs hr'=>?_) (fun r' hs hr'=>nomatch hs)))
    cbv
    refine G.c' (hpart _ _ hr' (Nat.succ_pos _) hO (Nat.succ_lt_succ (Nat.succ_pos _)) (fun op s k l cl z' r2 hq hcl hr2=>?_) (fun z' r2 hq hr2=>?_))
    ·obtain⟨cc,nn,h1,h2,h3,h4,h5⟩:=hX op s k l cl hcl
     have hgo:=hnext op s k l z' r2 _ _ _ hq h4 h5 hr2
     have h6:=h01 (AV.agg [.str op,.str s,.int .i64 k,.slice 24 cl .no])
     clear hX hnext hbad hpart hask
     cbv
     refine G.n' rfl ?_
     rw[h1]
     refine G.n' h2 (G.n' h6 ?_)
     rw[h3,← hL] at *
     exact za.weak (.cons rfl (.cons rfl (.cons rfl (.nil _)))) hgo
    ·have hgo:=fun c=>hbad z' r2 c hq hr2
     cbv
     rw[← hK']
     exact⟨[],.nil _,hgo _⟩
   |own cs n2 hn2=>
    have hq2:=heqc n2 hn2
    cbv
    refine G.n' rfl (G.c' (hask _ (fun r' hs hr'=>?_) (fun r' hs hr'=>nomatch hs)))
    cbv
    refine G.c' (hpart _ _ hr' (Nat.succ_pos _) hO (Nat.succ_lt_succ (Nat.succ_pos _)) (fun op s k l cl z' r2 hq hcl hr2=>?_) (fun z' r2 hq hr2=>?_))
    ·obtain⟨cc,nn,h1,h2,h3,h4,h5⟩:=hX op s k l cl hcl
     have hgo:=hnext op s k l z' r2 _ _ _ hq h4 h5 hr2
     have h6:=h01 (AV.agg [.str op,.str s,.int .i64 k,.slice 24 cl .no])
     clear hX hnext hbad hpart hask
     cbv
     refine G.n' rfl ?_
     rw[h1]
     refine G.n' h2 (G.n' hq2 ?_)
     rw[h3,← hL] at *
     exact za.weak (.cons rfl (.cons rfl (.cons rfl (.nil _)))) hgo
    ·have hgo:=fun c=>hbad z' r2 c hq hr2
     cbv
     rw[← hK']
     exact⟨[],.nil _,hgo _⟩
end Go.AM.Ps
namespace Go.AM.Ps
open Go.Proofs W
theorem Ps.fn21:FnOk Tryz.prog 21 (fni Tryz.f21 Pr.a21):=⟨⟨Tryz.f21,Tryz.func21,rfl,rfl,rfl,by kernel_rfl⟩,by kernel_rfl⟩
theorem Ps.fn37:FnOk Tryz.prog 37 (fni Tryz.f37 Pr.a37):=⟨⟨Tryz.f37,Tryz.func37,rfl,rfl,rfl,by kernel_rfl⟩,by kernel_rfl⟩
theorem Ps.fn38:FnOk Tryz.prog 38 (fni Tryz.f38 Pr.a38):=⟨⟨Tryz.f38,Tryz.func38,rfl,rfl,rfl,by kernel_rfl⟩,by kernel_rfl⟩
theorem Ps.fn42:FnOk Tryz.prog 42 (fni Tryz.f42 Pr.a42):=⟨⟨Tryz.f42,Tryz.func42,rfl,rfl,rfl,by kernel_rfl⟩,by kernel_rfl⟩
theorem Ps.fn44:FnOk Tryz.prog 44 (fni Tryz.f44 Pr.a44):=⟨⟨Tryz.f44,Tryz.func44,rfl,rfl,rfl,by kernel_rfl⟩,by kernel_rfl⟩
theorem Ps.fn45:FnOk Tryz.prog 45 (fni Tryz.f45 Pr.a45):=⟨⟨Tryz.f45,Tryz.func45,rfl,rfl,rfl,by kernel_rfl⟩,by kernel_rfl⟩
theorem Ps.fn47:FnOk Tryz.prog 47 (fni Tryz.f47 Pr.a47):=⟨⟨Tryz.f47,Tryz.func47,rfl,rfl,rfl,by kernel_rfl⟩,by kernel_rfl⟩
theorem Ps.fn48:FnOk Tryz.prog 48 (fni Tryz.f48 Pr.a48):=⟨⟨Tryz.f48,Tryz.func48,rfl,rfl,rfl,by kernel_rfl⟩,by kernel_rfl⟩
theorem Ps.fn49:FnOk Tryz.prog 49 (fni Tryz.f49 Pr.a49):=⟨⟨Tryz.f49,Tryz.func49,rfl,rfl,rfl,by kernel_rfl⟩,by kernel_rfl⟩
theorem Ps.fn74:FnOk Tryz.prog 74 (fni Tryz.f74 Pr.a74):=⟨⟨Tryz.f74,Tryz.func74,rfl,rfl,rfl,by kernel_rfl⟩,by kernel_rfl⟩
theorem Ps.fn76:FnOk Tryz.prog 76 (fni Tryz.f76 Pr.a76):=⟨⟨Tryz.f76,Tryz.func76,rfl,rfl,rfl,by kernel_rfl⟩,by kernel_rfl⟩
theorem Ps.fn77:FnOk Tryz.prog 77 (fni Tryz.f77 Pr.a77):=⟨⟨Tryz.f77,Tryz.func77,rfl,rfl,rfl,by kernel_rfl⟩,by kernel_rfl⟩
theorem Ps.fn81:FnOk Tryz.prog 81 (fni Tryz.f81 Pr.a81):=⟨⟨Tryz.f81,Tryz.func81,rfl,rfl,rfl,by kernel_rfl⟩,by kernel_rfl⟩
theorem NA.nil(op s:List UInt8)(k:Int)(e:TypeId)(m:Mode):NA (.agg [.str op,.str s,.int .i64 k,.slice e [] m]) (.mk op s k []):= .mk op s k e [] m [] rfl (.inr rfl)
theorem qdw{op s:List UInt8}{cs:List AV}{m:Mode}{l:List Nd}(hcs:NL cs l){S:St}{K:Out→St→Prop}(hK:∀ cl,cl=avL l→K (.ret (.agg [.str op,.str s,.int .i64 0,.slice 24 cl .no])) S) :
 jb Tryz.prog (Pr.tab real) 39 [.str op,.str s,.slice 24 cs m] S K:=by
 refine ja1 (K0:=fun o _=>o= .ret (.agg [.str op,.str s,.int .i64 0,.slice 24 (avL l) .no])) ?_ (by rintro o S0 rfl;exact hK _ rfl)
 have hr:renL (fun _=>none) (fun _=>none) [AV.str op,.str s,.slice 24 cs m]=[AV.str op,.str s,.slice 24 cs (renM (fun _=>none) m)]:=rfl
 rw[hr]
 exact jb.sub (jbh op s 24 cs _ (by cases m<;>rfl) St.nil _ ⟨_,.ret _ _ (zcq op s 0 _ hcs),rfl⟩)
theorem zc5{t:List Tk}(ht:Toks t)(n:Nat)(hn:n≤1000000000)(P:Parser t n)(z:Nat)(r:List AV)(h:At t z r)(hf:vf t n (aName qa t) z= .fuel→False) :
 jb Tryz.prog (Pr.tab real) 113 [.ptr 1 0] (P2 r) (jad t 2 (vf t n (aName qa t) z) lav):=by
 have hfin:=fun e cs m l z' S'=>xd8 t 2 (vf t n (aName qa t) z) e cs m l z' S'
 have hbad:=fun z' S'=>qak t 2 (vf t n (aName qa t) z) lav z' S'
 generalize jad t 2 (vf t n (aName qa t) z) lav=K0 at hfin hbad ⊢
 apply ja (un:=0) Pr.tabOk Pr.mixed Ps.fn113 (nb rfl)
 apply qb (mk:=Pr.tab)
 intro fail need _ _ _ _ _ _ _ _ _ eqS _ _ _ _ _ _ _ _ _ _ _ _ _ not _ _ _ G
 have heqS:=G.eqS2
 have hnot:=G.not2
 unfold P2
 cbv
 repeat'
  (first
    |((refine G.c' (zay ht (zeb ht) hn (by assumption) (nb rfl) (fun q=>hf (by simp only[Ps.need,Rs.bind,Ps.need,Ps.take,Ps.needs,bl, *];try exact rfl)) (fun l cl z' r' hs hcl hr'=>?_) (fun z' r' hs hr'=>?_)))<;>(try cbv))
    |fail)
 all_goals first
  |exact hbad _ _ (by simp only[Ps.need,Rs.bind,Ps.need,Ps.take,Ps.needs,bl, *];try exact rfl) (by assumption) (nb rfl) rfl
  |exact hfin _ _ _ _ _ _ (by simp only[Ps.need,Rs.bind,Ps.need,Ps.take,Ps.needs,bl, *];try exact rfl) (by subst_vars;exact rfl) (by first|exact .inl rfl|exact .inr rfl) (by assumption) (nb rfl) rfl
theorem ydv{t:List Tk}(ht:Toks t)(n:Nat)(hn:n≤1000000000)(P:Parser t n):FnCL t 113 (vf t n (aName qa t)):=zds fun z r h hf=>zc5 ht n hn P z r h hf
theorem xdn{t:List Tk}(ht:Toks t)(n:Nat)(hn:n≤1000000000)(P:Parser t n)(z:Nat)(r:List AV)(h:At t z r)(hf:names qa t n z= .fuel→False) :
 jb Tryz.prog (Pr.tab real) 78 [.ptr 0 0] (P0 r) (Post t (names qa t n z) lav):=by
 have hfin:=fun e cs m l z' S'=>finL t (names qa t n z) e cs m l z' S'
 have hbad:=fun z' S'=>qm t (names qa t n z) lav z' S'
 generalize Post t (names qa t n z) lav=K0 at hfin hbad ⊢
 apply ja (un:=0) Pr.tabOk Pr.mixed Ps.fn78 (nb rfl)
 apply qb (mk:=Pr.tab)
 intro fail need _ _ _ _ _ _ _ _ _ eqS _ _ _ _ _ _ _ _ _ _ _ _ _ not _ _ _ G
 have heqS:=G.eqS2
 have hnot:=G.not2
 unfold P0
 cbv
 repeat'
  (first
    |((refine G.c' (vbl ht (ydv ht n hn P) (by decide) (by assumption) (nb rfl) rfl (nb rfl) (fun q=>hf (by simp only[names,Rs.bind,Ps.need,Ps.take,Ps.needs,bl, *];try exact rfl)) (fun l cl z' r' hs hcl hr'=>?_) (fun z' r' hs hr'=>?_)))<;>(try cbv))
    |fail)
 all_goals first
  |exact hbad _ _ (by simp only[names,Rs.bind,Ps.need,Ps.take,Ps.needs,bl, *];try exact rfl) (by assumption) (nb rfl)
  |exact hfin _ _ _ _ _ _ (by simp only[names,Rs.bind,Ps.need,Ps.take,Ps.needs,bl, *];try exact rfl) (by subst_vars;exact rfl) (by first|exact .inl rfl|exact .inr rfl) (by assumption) (nb rfl)
theorem qb1{t:List Tk}(ht:Toks t)(n:Nat)(hn:n≤1000000000)(P:Parser t n):FnL t 78 [] (names qa t n):=zef (fun _=>rfl) fun z r h hf=>xdn ht n hn P z r h hf
theorem qd7{t:List Tk}(ht:Toks t)(n:Nat)(hn:n≤1000000000)(P:Parser t n)(z:Nat)(r:List AV)(h:At t z r)(hf:keyP qa t z= .fuel→False) :
 jb Tryz.prog (Pr.tab real) 74 [.ptr 0 0] (P0 r) (Post t (keyP qa t z) Nd.av):=by
 have hfin:=fun op s k e cs m l z' S'=>vac t (keyP qa t z) op s k e cs m l z' S'
 have hbad:=fun z' S'=>qm t (keyP qa t z) Nd.av z' S'
 generalize Post t (keyP qa t z) Nd.av=K0 at hfin hbad ⊢
 apply ja (un:=0) Pr.tabOk Pr.mixed Ps.fn74 (nb rfl)
 apply qb (mk:=Pr.tab)
 intro fail need _ _ _ _ _ _ _ _ _ eqS _ _ _ _ _ _ _ _ _ _ _ _ _ not _ _ _ G
 have heqS:=G.eqS2
 have hnot:=G.not2
 unfold P0
 cbv
 repeat'
  (first
    |refine G.n' rfl ?_
    |(rw[heqS];(try rw[hnot]);split<;>((first|contradiction|(rename_i hq;(try simp only[Bool.not_eq_true',Bool.not_eq_false'] at hq);rw[hq])|(rename_i hq _;rw[hq])|skip);try cbv))
    |((refine G.c' (vdq ht (by assumption) (nb rfl) (fun hs=>?_) (fun hs=>?_)))<;>(try cbv))
    |((refine G.c' (ja3 ht (by assumption) (nb rfl) (fun a z' r' hs hr'=>?_) (fun z' r' hs hr'=>?_)))<;>(try cbv))
    |((refine G.c' (ybl ht _ _ 0 _ (by assumption) (nb rfl) (fun q=>hf (by simp only[keyP,Rs.bind,Ps.need,Ps.take,Ps.needs,bl,Ps.named,Ps.node, *];try exact rfl)) (fun op s k l cl z' r' hs hcl hr'=>?_) (fun z' r' hs hr'=>?_)))<;>(try cbv))
    |((refine G.c' (jai ht [_,_] (by decide) (by assumption) (nb rfl) (fun a z' r' hs hr'=>?_)))<;>(try cbv))
    |((refine G.c' (vk [.mk _ _ _ _] (by subst_vars;exact rfl) (by first|exact .inl rfl|exact .inr rfl) rfl (fun cl hcl=>?_)))<;>(try cbv))
    |((refine G.c' (qdw (.cons (by first|exact NA.nil _ _ _ _ _|exact NA.mk _ _ _ _ _ _ _ (by subst_vars;exact rfl) (.inl rfl)) .nil) (fun cl hcl=>?_)))<;>(try cbv))
    |fail)
 all_goals first
  |exact hbad _ _ (by simp only[keyP,Rs.bind,Ps.need,Ps.take,Ps.needs,bl,Ps.named,Ps.node, *];try exact rfl) (by assumption) (nb rfl)
  |exact hfin _ _ _ _ _ _ _ _ _ (by simp only[keyP,Rs.bind,Ps.need,Ps.take,Ps.needs,bl,Ps.named,Ps.node, *];try exact rfl) (by subst_vars;exact rfl) (by first|exact .inl rfl|exact .inr rfl) (by assumption) (nb rfl)
theorem yen{t:List Tk}(ht:Toks t)(n:Nat)(hn:n≤1000000000)(P:Parser t n):Fn t 74 [] (keyP qa t):=xae (fun _=>rfl) fun z r h hf=>qd7 ht n hn P z r h hf
theorem jdn{t:List Tk}(ht:Toks t)(n:Nat)(hn:n≤1000000000)(P:Parser t n)(z:Nat)(r:List AV)(h:At t z r)(hf:query qa t n z= .fuel→False) :
 jb Tryz.prog (Pr.tab real) 37 [.ptr 0 0] (P0 r) (Post t (query qa t n z) Nd.av):=by
 have hfin:=fun op s k e cs m l z' S'=>vac t (query qa t n z) op s k e cs m l z' S'
 have hbad:=fun z' S'=>qm t (query qa t n z) Nd.av z' S'
 generalize Post t (query qa t n z) Nd.av=K0 at hfin hbad ⊢
 apply ja (un:=0) Pr.tabOk Pr.mixed Ps.fn37 (nb rfl)
 apply qb (mk:=Pr.tab)
 intro fail need _ _ _ _ _ _ _ _ _ eqS _ _ _ _ _ _ _ _ _ _ _ _ _ not _ _ _ G
 have heqS:=G.eqS2
 have hnot:=G.not2
 unfold P0
 cbv
 repeat'
  (first
    |refine G.n' rfl ?_
    |((refine G.c' (P.body _ _ 0 _ (by assumption) (nb rfl) (fun q=>hf (by simp only[query,Rs.bind,Ps.need,Ps.take,Ps.needs,bl,Ps.named,Ps.node, *];try exact rfl)) (fun op s k l cl z' r' hs hcl hr'=>?_) (fun z' r' hs hr'=>?_)))<;>(try cbv))
    |((refine G.c' (yao ht (by assumption) (nb rfl) (fun r' hs hs2 hr'=>?_) (fun r' hs hr'=>?_) (fun z' r' hs hs2 hr'=>?_)))<;>(try cbv))
    |((refine G.c' (zay ht (yen ht n hn P) hn (by assumption) (nb rfl) (fun q=>hf (by simp only[query,Rs.bind,Ps.need,Ps.take,Ps.needs,bl,Ps.named,Ps.node, *];try exact rfl)) (fun l cl z' r' hs hcl hr'=>?_) (fun z' r' hs hr'=>?_)))<;>(try cbv))
    |((refine G.c' (jg [] (by subst_vars;exact rfl) (by first|exact .inl rfl|exact .inr rfl) rfl (fun cl hcl=>?_)))<;>(try cbv))
    |((refine G.c' (jg [.mk _ _ _ _,.mk _ _ _ _] (by subst_vars;exact rfl) (by first|exact .inl rfl|exact .inr rfl) rfl (fun cl hcl=>?_)))<;>(try cbv))
    |fail)
 all_goals first
  |exact hbad _ _ (by simp only[query,Rs.bind,Ps.need,Ps.take,Ps.needs,bl,Ps.named,Ps.node, *];try exact rfl) (by assumption) (nb rfl)
  |exact hfin _ _ _ _ _ _ _ _ _ (by simp only[query,Rs.bind,Ps.need,Ps.take,Ps.needs,bl,Ps.named,Ps.node, *];try exact rfl) (by subst_vars;exact rfl) (by first|exact .inl rfl|exact .inr rfl) (by assumption) (nb rfl)
theorem vcx{t:List Tk}(ht:Toks t)(n:Nat)(hn:n≤1000000000)(P:Parser t n):Fn t 37 [] (query qa t n):=xae (fun _=>rfl) fun z r h hf=>jdn ht n hn P z r h hf
theorem xdm{t:List Tk}(ht:Toks t)(n:Nat)(hn:n≤1000000000)(P:Parser t n)(z:Nat)(r:List AV)(h:At t z r)(hf:whose qa t n z= .fuel→False) :
 jb Tryz.prog (Pr.tab real) 45 [.ptr 0 0] (P0 r) (Post t (whose qa t n z) Nd.av):=by
 have hfin:=fun op s k e cs m l z' S'=>vac t (whose qa t n z) op s k e cs m l z' S'
 have hbad:=fun z' S'=>qm t (whose qa t n z) Nd.av z' S'
 generalize Post t (whose qa t n z) Nd.av=K0 at hfin hbad ⊢
 apply ja (un:=0) Pr.tabOk Pr.mixed Ps.fn45 (nb rfl)
 apply qb (mk:=Pr.tab)
 intro fail need _ _ _ _ _ _ _ _ _ eqS _ _ _ _ _ _ _ _ _ _ _ _ _ not _ _ _ G
 have heqS:=G.eqS2
 have hnot:=G.not2
 unfold P0
 cbv
 repeat'
  (first
    |refine G.n' rfl ?_
    |((refine G.c' (qk ht (by assumption) (nb rfl) (fun r' hs hr'=>?_) (fun r' hs hr'=>?_)))<;>(try cbv))
    |((refine G.c' (yao ht (by assumption) (nb rfl) (fun r' hs hs2 hr'=>?_) (fun r' hs hr'=>?_) (fun z' r' hs hs2 hr'=>?_)))<;>(try cbv))
    |((refine G.c' (yy ht (by assumption) (nb rfl) (fun a z' r' hs hr'=>?_) (fun z' r' hs hr'=>?_)))<;>(try cbv))
    |((refine G.c' (P.expr _ _ 0 _ (by assumption) (nb rfl) (fun q=>hf (by simp only[whose,Rs.bind,Ps.need,Ps.take,Ps.needs,bl,Ps.named,Ps.node, *];try exact rfl)) (fun op s k l cl z' r' hs hcl hr'=>?_) (fun z' r' hs hr'=>?_)))<;>(try cbv))
    |((refine G.c' (vk [] (by subst_vars;exact rfl) (by first|exact .inl rfl|exact .inr rfl) rfl (fun cl hcl=>?_)))<;>(try cbv))
    |((refine G.c' (jg [] (by subst_vars;exact rfl) (by first|exact .inl rfl|exact .inr rfl) rfl (fun cl hcl=>?_)))<;>(try cbv))
    |((refine G.c' (jg [.mk _ _ _ _] (by subst_vars;exact rfl) (by first|exact .inl rfl|exact .inr rfl) rfl (fun cl hcl=>?_)))<;>(try cbv))
    |(rw[hnot];(try cbv))
    |fail)
 all_goals first
  |exact hbad _ _ (by simp only[whose,Rs.bind,Ps.need,Ps.take,Ps.needs,bl,Ps.named,Ps.node, *];try exact rfl) (by assumption) (nb rfl)
  |exact hfin _ _ _ _ _ _ _ _ _ (by simp only[whose,Rs.bind,Ps.need,Ps.take,Ps.needs,bl,Ps.named,Ps.node, *];try exact rfl) (by subst_vars;exact rfl) (by first|exact .inl rfl|exact .inr rfl) (by assumption) (nb rfl)
theorem zea{t:List Tk}(ht:Toks t)(n:Nat)(hn:n≤1000000000)(P:Parser t n):Fn t 45 [] (whose qa t n):=xae (fun _=>rfl) fun z r h hf=>xdm ht n hn P z r h hf
theorem jd6{t:List Tk}(ht:Toks t)(n:Nat)(hn:n≤1000000000)(P:Parser t n)(z:Nat)(r:List AV)(h:At t z r)(hf:setE qa t n z= .fuel→False) :
 jb Tryz.prog (Pr.tab real) 44 [.ptr 0 0] (P0 r) (Post t (setE qa t n z) Nd.av):=by
 have hfin:=fun op s k e cs m l z' S'=>vac t (setE qa t n z) op s k e cs m l z' S'
 have hbad:=fun z' S'=>qm t (setE qa t n z) Nd.av z' S'
 generalize Post t (setE qa t n z) Nd.av=K0 at hfin hbad ⊢
 apply ja (un:=0) Pr.tabOk Pr.mixed Ps.fn44 (nb rfl)
 apply qb (mk:=Pr.tab)
 intro fail need _ _ _ _ _ _ _ _ _ eqS _ _ _ _ _ _ _ _ _ _ _ _ _ not _ _ _ G
 have heqS:=G.eqS2
 have hnot:=G.not2
 unfold P0
 cbv
 repeat'
  (first
    |refine G.n' rfl ?_
    |((refine G.c' (yy ht (by assumption) (nb rfl) (fun a z' r' hs hr'=>?_) (fun z' r' hs hr'=>?_)))<;>(try cbv))
    |((refine G.c' (vl ht (by assumption) (nb rfl) (fun r' hs hr'=>?_) (fun z' r' hs hr'=>?_)))<;>(try cbv))
    |((refine G.c' (P.expr _ _ 0 _ (by assumption) (nb rfl) (fun q=>hf (by simp only[setE,Rs.bind,Ps.need,Ps.take,Ps.needs,bl,Ps.named,Ps.node, *];try exact rfl)) (fun op s k l cl z' r' hs hcl hr'=>?_) (fun z' r' hs hr'=>?_)))<;>(try cbv))
    |((refine G.c' (vk [.mk _ _ _ _] (by subst_vars;exact rfl) (by first|exact .inl rfl|exact .inr rfl) rfl (fun cl hcl=>?_)))<;>(try cbv))
    |fail)
 all_goals first
  |exact hbad _ _ (by simp only[setE,Rs.bind,Ps.need,Ps.take,Ps.needs,bl,Ps.named,Ps.node, *];try exact rfl) (by assumption) (nb rfl)
  |exact hfin _ _ _ _ _ _ _ _ _ (by simp only[setE,Rs.bind,Ps.need,Ps.take,Ps.needs,bl,Ps.named,Ps.node, *];try exact rfl) (by subst_vars;exact rfl) (by first|exact .inl rfl|exact .inr rfl) (by assumption) (nb rfl)
theorem xen{t:List Tk}(ht:Toks t)(n:Nat)(hn:n≤1000000000)(P:Parser t n):Fn t 44 [] (setE qa t n):=xae (fun _=>rfl) fun z r h hf=>jd6 ht n hn P z r h hf
theorem xd6{t:List Tk}(ht:Toks t)(n:Nat)(hn:n≤1000000000)(P:Parser t n)(z:Nat)(r:List AV)(h:At t z r)(hf:rowP qa t n z= .fuel→False) :
 jb Tryz.prog (Pr.tab real) 81 [.ptr 1 0] (P2 r) (jad t 2 (rowP qa t n z) Nd.av):=by
 have hfin:=fun op s k e cs m l z' S'=>qbt t 2 (rowP qa t n z) op s k e cs m l z' S'
 have hbad:=fun z' S'=>qak t 2 (rowP qa t n z) Nd.av z' S'
 generalize jad t 2 (rowP qa t n z) Nd.av=K0 at hfin hbad ⊢
 apply ja (un:=0) Pr.tabOk Pr.mixed Ps.fn81 (nb rfl)
 apply qb (mk:=Pr.tab)
 intro fail need _ _ _ _ _ _ _ _ _ eqS _ _ _ _ _ _ _ _ _ _ _ _ _ not _ _ _ G
 have heqS:=G.eqS2
 have hnot:=G.not2
 unfold P2
 cbv
 repeat'
  (first
    |((refine G.c' (za7 ht P.exprs (by assumption) (nb rfl) (fun q=>hf (by simp only[rowP,Rs.bind,Ps.need,Ps.take,Ps.needs,bl,Ps.named,Ps.node, *];try exact rfl)) (fun l cl z' r' hs hcl hr'=>?_) (fun z' r' hs hr'=>?_)))<;>(try cbv))
    |((refine G.c' (jg _ (by subst_vars;exact rfl) (by first|exact .inl rfl|exact .inr rfl) rfl (fun cl hcl=>?_)))<;>(try cbv))
    |fail)
 all_goals first
  |exact hbad _ _ (by simp only[rowP,Rs.bind,Ps.need,Ps.take,Ps.needs,bl,Ps.named,Ps.node, *];try exact rfl) (by assumption) (nb rfl) rfl
  |exact hfin _ _ _ _ _ _ _ _ _ (by simp only[rowP,Rs.bind,Ps.need,Ps.take,Ps.needs,bl,Ps.named,Ps.node, *];try exact rfl) (by subst_vars;exact rfl) (by first|exact .inl rfl|exact .inr rfl) (by assumption) (nb rfl) rfl
theorem ven{t:List Tk}(ht:Toks t)(n:Nat)(hn:n≤1000000000)(P:Parser t n):FnC t 81 (rowP qa t n):=xcu fun z r h hf=>xd6 ht n hn P z r h hf
theorem ydn{t:List Tk}(ht:Toks t)(n:Nat)(hn:n≤1000000000)(P:Parser t n)(z:Nat)(r:List AV)(h:At t z r)(hf:level t z= .fuel→False) :
 jb Tryz.prog (Pr.tab real) 47 [.ptr 0 0] (P0 r) (Post t (level t z) (AV.int .i64)):=by
 have hfin:=fun a z' S'=>finI t (level t z) a z' S'
 have hbad:=fun z' S'=>qm t (level t z) (AV.int .i64) z' S'
 generalize Post t (level t z) (AV.int .i64)=K0 at hfin hbad ⊢
 apply ja (un:=0) Pr.tabOk Pr.mixed Ps.fn47 (nb rfl)
 apply qb (mk:=Pr.tab)
 intro fail need _ _ _ _ _ _ _ _ _ eqS _ _ _ _ _ _ _ _ _ _ _ _ _ not _ _ _ G
 have heqS:=G.eqS2
 have hnot:=G.not2
 unfold P0
 cbv
 repeat'
  (first
    |refine G.n' rfl ?_
    |(rw[heqS];(try rw[hnot]);split<;>((first|contradiction|(rename_i hq;(try simp only[Bool.not_eq_true',Bool.not_eq_false'] at hq);rw[hq])|(rename_i hq _;rw[hq])|skip);try cbv))
    |((refine G.c' (jai ht [_,_,_] (by decide) (by assumption) (nb rfl) (fun a z' r' hs hr'=>?_)))<;>(try cbv))
    |((refine G.c' (qk ht (by assumption) (nb rfl) (fun r' hs hr'=>?_) (fun r' hs hr'=>?_)))<;>(try cbv))
    |((refine G.c' (vl ht (by assumption) (nb rfl) (fun r' hs hr'=>?_) (fun z' r' hs hr'=>?_)))<;>(try cbv))
    |fail)
 all_goals first
  |exact hbad _ _ (by simp only[level,Rs.bind,Ps.need,Ps.take,Ps.needs,bl, *];try exact rfl) (by assumption) (nb rfl)
  |exact hfin _ _ _ (by simp only[level,Rs.bind,Ps.need,Ps.take,Ps.needs,bl, *];try exact rfl) (by assumption) (nb rfl)
theorem qc6(t:List Tk)(z:Nat):level t z= .fuel→False:=by
 intro h
 unfold level at h
 have ho:∀ l z,one t l z≠ .fuel:=by
  intro l
  induction l with
  |nil=>intro z;simp[one]
  |cons a l ih=>intro z;unfold one;split<;>simp[ih]
 have htk:∀ s z,take t s [] z≠ .fuel:=by
  intro s z
  unfold Ps.take;split<;>simp[Ps.needs,Rs.bind]
 refine bind_fuel h (ho _ _) fun a z h=>?_
 split at h
 ·refine bind_fuel h (htk _ _) fun a z h=>?_
  split at h
  ·cases h
  ·exact bind_fuel h (ya0 _ _ _) fun _ _ h=>nomatch h
 ·split at h
  ·exact bind_fuel h (ya0 _ _ _) fun _ _ h=>nomatch h
  ·split at h<;>cases h
theorem qeb{t:List Tk}(ht:Toks t)(n:Nat)(hn:n≤1000000000)(P:Parser t n){z:Nat}{S:St}{o:Nat}(h:At t z (S.row o))(ho:o<S.next){K:Out→St→Prop}
 (hok:∀ a z' r',level t z= .ok a z'→At t z' r'→K (.ret (.int .i64 a)) (S.set o r')) (hwr:∀ z' r',level t z= .wrong→At t z' r'→K (.panic vg) (S.set o r')) :
 jb Tryz.prog (Pr.tab real) 47 [.ptr o 0] S K:=
 jv (renP rfl) qcm h ho (ydn ht n hn P z _ h (qc6 t z)) hok hwr
theorem zb9{t:List Tk}(ht:Toks t)(n:Nat)(hn:n≤1000000000)(P:Parser t n)(z:Nat)(r:List AV)(h:At t z r)(hf:declareP qa t n z= .fuel→False) :
 jb Tryz.prog (Pr.tab real) 48 [.ptr 0 0] (P0 r) (Post t (declareP qa t n z) Nd.av):=by
 have hfin:=fun op s k e cs m l z' S'=>vac t (declareP qa t n z) op s k e cs m l z' S'
 have hbad:=fun z' S'=>qm t (declareP qa t n z) Nd.av z' S'
 have hfin2:=fun op s k cs m l z' S'=>jds t (declareP qa t n z) op s k cs m l z' S'
 generalize Post t (declareP qa t n z) Nd.av=K0 at hfin hbad hfin2 ⊢
 apply ja (un:=0) Pr.tabOk Pr.mixed Ps.fn48 (nb rfl)
 apply qb (mk:=Pr.tab)
 intro fail need _ _ _ _ _ _ _ _ _ eqS _ _ _ _ _ _ _ _ _ _ _ _ _ not _ _ _ G
 have heqS:=G.eqS2
 have hnot:=G.not2
 unfold P0
 cbv
 repeat'
  (first
    |refine G.n' rfl ?_
    |refine G.s' rfl ?_
    |(rw[heqS];(try rw[hnot]);split<;>((first|contradiction|(rename_i hq;(try simp only[Bool.not_eq_true',Bool.not_eq_false'] at hq);rw[hq])|(rename_i hq _;rw[hq])|skip);try cbv))
    |((refine G.c' (yy ht (by assumption) (nb rfl) (fun a z' r' hs hr'=>?_) (fun z' r' hs hr'=>?_)))<;>(try cbv))
    |((refine G.c' (qk ht (by assumption) (nb rfl) (fun r' hs hr'=>?_) (fun r' hs hr'=>?_)))<;>(try cbv))
    |((refine G.c' (vl ht (by assumption) (nb rfl) (fun r' hs hr'=>?_) (fun z' r' hs hr'=>?_)))<;>(try cbv))
    |((refine G.c' ((vcx ht n hn P) _ _ 0 _ (by assumption) (nb rfl) (fun q=>hf (by simp only[declareP,forP,Rs.bind,Ps.need,Ps.take,Ps.needs,bl,Ps.named,Ps.node, *];try exact rfl)) (fun op s k l cl z' r' hs hcl hr'=>?_) (fun z' r' hs hr'=>?_)))<;>(try cbv))
    |((refine G.c' (jai ht [_,_] (by decide) (by assumption) (nb rfl) (fun a z' r' hs hr'=>?_)))<;>(try cbv))
    |((refine G.c' (vk [] (by subst_vars;exact rfl) (by first|exact .inl rfl|exact .inr rfl) rfl (fun cl hcl=>?_)))<;>(try cbv))
    |fail)
 all_goals first
  |exact hbad _ _ (by simp only[declareP,forP,Rs.bind,Ps.need,Ps.take,Ps.needs,bl,Ps.named,Ps.node, *];try exact rfl) (by assumption) (nb rfl)
  |exact hfin _ _ _ _ _ _ _ _ _ (by simp only[declareP,forP,Rs.bind,Ps.need,Ps.take,Ps.needs,bl,Ps.named,Ps.node, *];try exact rfl) (by subst_vars;exact rfl) (by first|exact .inl rfl|exact .inr rfl) (by assumption) (nb rfl)
theorem zcp{t:List Tk}(ht:Toks t)(n:Nat)(hn:n≤1000000000)(P:Parser t n):Fn t 48 [] (declareP qa t n):=xae (fun _=>rfl) fun z r h hf=>zb9 ht n hn P z r h hf
theorem xel{t:List Tk}(ht:Toks t)(n:Nat)(hn:n≤1000000000)(P:Parser t n)(z:Nat)(r:List AV)(h:At t z r)(hf:way t z= .fuel→False) :
 jb Tryz.prog (Pr.tab real) 49 [.ptr 0 0] (P0 r) (Post t (way t z) Nd.av):=by
 have hfin:=fun op s k e cs m l z' S'=>vac t (way t z) op s k e cs m l z' S'
 have hbad:=fun z' S'=>qm t (way t z) Nd.av z' S'
 generalize Post t (way t z) Nd.av=K0 at hfin hbad ⊢
 apply ja (un:=0) Pr.tabOk Pr.mixed Ps.fn49 (nb rfl)
 apply qb (mk:=Pr.tab)
 intro fail need _ _ _ _ _ arith _ _ _ eqS _ _ _ _ _ _ _ _ _ _ _ _ _ not _ _ _ G
 have heqS:=G.eqS2
 have hnot:=G.not2
 have hneg:∀ a z1 z2,number t z1= .ok a z2→arith BinOp.sub IntKind.i64 0 a= -a:=by
  intro a z1 z2 hq
  have hb:0≤a∧a<9223372036854775808:=by
   unfold Ps.number at hq
   split at hq
   ·cases hq
    unfold numAt
    cases hx:t[z1]? with
    |none=>simp
    |some x=>exact ht.nn x (List.mem_of_getElem? hx)
   ·cases hq
  rw[G.arith']
  show IntKind.i64.wrap (0-a)= -a
  rw[show (0:Int)-a= -a by omega]
  exact wrap_i64 _ (by omega) (by omega)
 unfold P0
 cbv
 repeat'
  (first
    |refine G.n' rfl ?_
    |(rw[heqS];(try rw[hnot]);split<;>((first|contradiction|(rename_i hq;(try simp only[Bool.not_eq_true',Bool.not_eq_false'] at hq);rw[hq])|(rename_i hq _;rw[hq])|skip);try cbv))
    |((refine G.c' (jai ht [_,_,_,_,_,_] (by decide) (by assumption) (nb rfl) (fun a z' r' hs hr'=>?_)))<;>(try cbv))
    |((refine G.c' (qk ht (by assumption) (nb rfl) (fun r' hs hr'=>?_) (fun r' hs hr'=>?_)))<;>(try cbv))
    |((refine G.c' (ja3 ht (by assumption) (nb rfl) (fun a z' r' hs hr'=>?_) (fun z' r' hs hr'=>?_)))<;>(try cbv))
    |((refine G.c' (jg [] (by subst_vars;exact rfl) (by first|exact .inl rfl|exact .inr rfl) rfl (fun cl hcl=>?_)))<;>(try cbv))
    |(((rw[hneg _ _ _ (by assumption)]))<;>(try cbv))
    |fail)
 all_goals first
  |exact hbad _ _ (by simp only[way,Rs.bind,Ps.need,Ps.take,Ps.needs,bl,Ps.named,Ps.node, *];try exact rfl) (by assumption) (nb rfl)
  |exact hfin _ _ _ _ _ _ _ _ _ (by simp only[way,Rs.bind,Ps.need,Ps.take,Ps.needs,bl,Ps.named,Ps.node, *];try exact rfl) (by subst_vars;exact rfl) (by first|exact .inl rfl|exact .inr rfl) (by assumption) (nb rfl)
theorem xew{t:List Tk}(ht:Toks t)(n:Nat)(hn:n≤1000000000)(P:Parser t n):Fn t 49 [] (way t):=xae (fun _=>rfl) fun z r h hf=>xel ht n hn P z r h hf
end Go.AM.Ps
