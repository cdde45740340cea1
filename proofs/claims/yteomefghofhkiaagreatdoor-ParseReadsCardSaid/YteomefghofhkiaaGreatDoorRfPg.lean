/- The document's reader: joins, options, elements. -/
import Derived.Test.YteomefghofhkiaaGreatDoorRfPf
set_option maxRecDepth 100000
set_option maxHeartbeats 40000000
set_option linter.unusedVariables false
set_option linter.unusedSimpArgs false
namespace Go.AM.Rf
open Go.Proofs Go.AM.Ps Go.AM.W
theorem Rf.fn153:FnOk Tryz.prog 153 (fni Tryz.f153 Pr.a153):=⟨⟨Tryz.f153,Tryz.func153,rfl,rfl,rfl,by kernel_rfl⟩,by kernel_rfl⟩
noncomputable def c153:Code:=(fni Tryz.f153 Pr.a153).loop 0
theorem Rf.c153:qf 86 Pr.a153 c153=true:=by kernel_rfl
theorem jdz(K:Ex→Env→St→Prop)(env:Env)(S:St)(h:xg (pAlg Tryz.prog (Pr.tab real) 86) (Pr.tab real) Pr.a153 0 c153 (andThen (za Tryz.prog (Pr.tab real) 86 c153 K) K) env S):za Tryz.prog (Pr.tab real) 86 c153 K env S:=
 vc Pr.tabOk Pr.mixed Rf.c153 h
noncomputable def c153i:Code:=(fni Tryz.f153 Pr.a153).loop 1
theorem Rf.c153i:qf 86 Pr.a153 c153i=true:=by kernel_rfl
theorem vbd(K:Ex→Env→St→Prop)(env:Env)(S:St)(h:xg (pAlg Tryz.prog (Pr.tab real) 86) (Pr.tab real) Pr.a153 0 c153i (andThen (za Tryz.prog (Pr.tab real) 86 c153i K) K) env S):za Tryz.prog (Pr.tab real) 86 c153i K env S:=
 vc Pr.tabOk Pr.mixed Rf.c153i h
theorem qdq(tv:AV)(R2:List AV)(O:List (Nat × List AV))(j:Nat)(K:Ex→Env→St→Prop)(wv:List AV)(op:List UInt8)(hop:(op == [])=false)(yi:Int)(S:St)(hK:K (.exit 2) [(0,.ptr 0 0),(2,.ptr 1 0),(3,.ptr 2 0),(4,.str op)] S) :
 za Tryz.prog (Pr.tab real) 86 c153i (Less K) [(0,.ptr 0 0),(2,.ptr 1 0),(3,.ptr 2 0),(4,.str op),(5,.slice 9 wv .exact),(6,.int .i64 yi)] S:=by
 apply vbd
 apply xb (mk:=Pr.tab)
 intro _ _ _ _ _ len _ _ _ cmp _ eqS _ _ _ _ _ _ _ _ _ _ _ _ _ _ _ _ _ G
 have heq:eqS op []=false:=by rw[G.eqS'];exact hop
 obtain⟨q,hq⟩:∃ q,cmp BinOp.lss yi (len wv)=q:=⟨_,rfl⟩
 generalize hL:za Tryz.prog (Pr.tab real) 86 c153i (Less K)=L
 generalize hK':Less K=K'
 cbv
 refine G.n' rfl ?_
 rw[hq]
 cases q with
 |true=>
  cbv
  rw[heq]
  cbv
  rw[← hK']
  exact⟨[(0,.ptr 0 0),(2,.ptr 1 0),(3,.ptr 2 0),(4,.str op)],(.cons rfl (.cons rfl (.cons rfl (.cons rfl (.nil _))))),hK⟩
 |false=>
  cbv
  rw[← hK']
  exact⟨[(0,.ptr 0 0),(2,.ptr 1 0),(3,.ptr 2 0),(4,.str op)],(.cons rfl (.cons rfl (.cons rfl (.cons rfl (.nil _))))),hK⟩
theorem ydp{t:List Tk}(tv:AV)(N:Nat)(R2:List AV)(O:List (Nat × List AV))(j:Nat)(hgot:∀ s,Lit tv N 24 [.str s] (got t s) .bool)(F:Option (List UInt8)→M Nd)(F2:List UInt8→Bool→M Nd)(hF:∀ w,F (some w)=bd (got t W.k_outer) (F2 w))(K:Ex→Env→St→Prop)(Q:Nd→Nat→Bool→Prop)
 (hnone:∀(z:Nat) (b:Bool) (y:Int),y=z→z≤N→W (F none) z b Q→K (.exit 2) [(0,.ptr 0 0),(2,.ptr 1 0),(3,.ptr 2 0),(4,.str [])] ⟨(0,[tv,.int .i64 y,.bool b])::(1,[.str [],.str [],.int .i64 0,.slice 0 [] .exact])::(2,R2)::O,j+3,[]⟩)
 (hsome:∀(w:List UInt8) (ou:Bool) (z:Nat) (b:Bool) (y:Int),(w == [])=false→y=z→z≤N→W (F2 w ou) z b Q→K (.exit 2) [(0,.ptr 0 0),(2,.ptr 1 0),(3,.ptr 2 0),(4,.str w)] ⟨(0,[tv,.int .i64 y,.bool b])::(1,[.str [],.str [],.int .i64 0,.slice 0 [] .exact])::(2,R2)::O,j+3,[]⟩)
 (ws:List (List UInt8)) (wv:List AV) (hwv:wv=ws.map AV.str) (hw6:ws.length≤100) (hne:∀ w ∈ ws,(w == [])=false) (rest:List (List UInt8)) :
 ∀(i:Nat) (yi:Int) (z:Nat) (b:Bool) (y:Int),ws.drop i=rest→i≤ws.length→yi=i→y=z→z≤N→W (bd (whichOf t rest) F) z b Q →
  za Tryz.prog (Pr.tab real) 86 c153i (Less K) [(0,.ptr 0 0),(2,.ptr 1 0),(3,.ptr 2 0),(4,.str []),(5,.slice 9 wv .exact),(6,.int .i64 yi)] ⟨(0,[tv,.int .i64 y,.bool b])::(1,[.str [],.str [],.int .i64 0,.slice 0 [] .exact])::(2,R2)::O,j+3,[]⟩:=by
 induction rest with
 |nil=>
  intro i yi z b y hd hi hyi hy hz hK
  have hge:ws.length≤i:=by simpa using hd
  have hK:=hnone z b y hy hz (W.rb hK)
  apply vbd
  apply xb (mk:=Pr.tab)
  intro fail need same call loop len slen arith shift cmp conv eqS ltS cat app elt byt subS subL strOf isB fit inb cut room not and eqB avs G
  have hb:cmp BinOp.lss yi (len wv)=false:=by rw[G.cmp',G.len',hwv];simp[vb];omega
  generalize hL:za Tryz.prog (Pr.tab real) 86 c153i (Less K)=L
  generalize hK':Less K=K'
  cbv
  refine G.n' rfl ?_
  rw[hb]
  cbv
  rw[← hK']
  exact⟨[(0,.ptr 0 0),(2,.ptr 1 0),(3,.ptr 2 0),(4,.str [])],(.cons rfl (.cons rfl (.cons rfl (.cons rfl (.nil _))))),hK⟩
 |cons w rest ih=>
  intro i yi z b y hd hi hyi hy hz hK
  have hlt:i<ws.length:=by
   rcases Nat.lt_or_ge i ws.length with q|q
   ·exact q
   ·rw[List.drop_eq_nil_of_le q] at hd;cases hd
  have hw:ws[i]? =some w:=by
   have:=List.drop_eq_getElem_cons hlt
   rw[hd] at this
   injection this with h1 h2
   rw[List.getElem?_eq_getElem hlt,h1]
  have hd2:ws.drop (i+1)=rest:=by
   have:=List.drop_eq_getElem_cons hlt
   rw[hd] at this
   injection this with h1 h2
   exact h2.symm
  have hwne:=hne w (List.mem_of_getElem? hw)
  have ih:=fun z b y hy hz hK=>ih (i+1) (yi+1) z b y hd2 (by omega) (by omega) hy hz hK
  have hex:=fun S hK=>qdq tv R2 O j K wv w hwne (yi+1) S hK
  have hK:W (bd (got t w) fun ok=>bd (match ok with
   |true=>rt (some w)
   |false=>whichOf t rest) F) z b Q:=W.as hK
  apply vbd
  apply xb (mk:=Pr.tab)
  intro _ _ _ _ _ len _ arith _ cmp _ eqS _ _ _ elt _ _ _ _ _ _ inb _ _ _ _ _ _ G
  have hb:cmp BinOp.lss yi (len wv)=true:=by rw[G.cmp',G.len',hwv];simp[vb];omega
  have hin:inb yi (len wv)=true:=by rw[G.inb',G.len',hwv];simp;omega
  have hel:elt wv yi= .str w:=by
   rw[G.elt',hwv];simp only[]
   rw[show yi.toNat=i by omega,List.getD_eq_getElem?_getD,List.getElem?_map,hw];rfl
  have hone:arith BinOp.add IntKind.i64 yi 1=yi+1:=by rw[G.arith'];exact wrap_i64 _ (by omega) (by omega)
  have h00:eqS [] []=true:=by rw[G.eqS'];rfl
  generalize hL:za Tryz.prog (Pr.tab real) 86 c153i (Less K)=L at ih hex ⊢
  generalize hK':Less K=K' at hL ⊢
  generalize yi+1=y1 at *
  clear hw hd hd2 hnone hwv hlt hi
  cbv
  refine G.n' rfl ?_
  rw[hb]
  cbv
  rw[h00]
  cbv
  refine G.n' hin ?_
  rw[hel]
  refine G.c' (hgot _ _ _ _ _ _ hy rfl hz (nb rfl) (W.mono (W.bd hK) fun a z b hK hz y hy=>?_))
  cases a with
  |false=>
   have hgo:=ih z b y hy hz hK
   cbv
   refine G.n' rfl ?_
   rw[hone]
   subst hL
   exact za.weak (env':=[(0,.ptr 0 0),(2,.ptr 1 0),(3,.ptr 2 0),(4,.str []),(5,.slice 9 wv .exact),(6,.int .i64 y1)]) (.cons rfl (.cons rfl (.cons rfl (.cons rfl (.cons rfl (.cons rfl (.nil _))))))) hgo
  |true=>
   have hK:W (F (some w)) z b Q:=W.rb hK
   rw[hF] at hK
   clear ih
   cbv
   refine G.n' hin ?_
   rw[hel]
   cbv
   refine G.c' (hgot _ _ _ _ _ _ hy rfl hz (nb rfl) (W.mono (W.bd hK) fun ou z b hK hz y hy=>?_))
   have hgo:=hex _ (hsome w ou z b y hwne hy hz hK)
   cbv
   refine G.n' rfl ?_
   rw[hone]
   subst hL
   exact za.weak (env':=[(0,.ptr 0 0),(2,.ptr 1 0),(3,.ptr 2 0),(4,.str w),(5,.slice 9 wv .exact),(6,.int .i64 y1)]) (.cons rfl (.cons rfl (.cons rfl (.cons rfl (.cons rfl (.cons rfl (.nil _))))))) hgo
theorem table_loop{t:List Tk}{n:Nat}(tv:AV)(N:Nat)(hgot:∀ s,Lit tv N 24 [.str s] (got t s) .bool)(hmust:∀ s,Lit tv N 56 [.str s] (must t s) (fun _=> .tup []))(his:∀ s,Lit tv N 50 [.int .i64 0,.str s] (isT t 0 s) .bool)(hjn:LitN tv N 163 [] (joined t n))(hex:LitN tv N 93 [] (expr t n))(K:Ex→Env→St→Prop)(r:Nat) :
 ∀(S:St) (z:Nat) (b:Bool) (y:Int) (o s:List UInt8) (k:Int) (l:List Nd) (cl:List AV),S.row 0=[tv,.int .i64 y,.bool b]→S.row 1=[.str [],.str [],.int .i64 0,.slice 0 [] .exact]→S.row 2=[.str o,.str s,.int .i64 k,.slice 24 cl .no]→(∃ k,S.next=k+3)→S.caps=[]→y=z→z≤N→cl=avL l →
  W (joins t (joined t n) (expr t n) r (.mk o s k l)) z b (fun a z' b'=>z'≤N→∀(y':Int) (cl':List AV) (O:List (Nat × List AV)) (j:Nat),y'=z'→cl'=avL (ndL a) →
   K (.exit 0) [(0,.ptr 0 0),(2,.ptr 1 0),(3,.ptr 2 0)] ⟨(0,[tv,.int .i64 y',.bool b'])::(1,[.str [],.str [],.int .i64 0,.slice 0 [] .exact])::(2,[.str (ndOp a),.str (ndS a),.int .i64 (ndN a),.slice 24 cl' .no])::O,j+3,[]⟩ ∧
   K .ret [(2,.ptr 1 0)] ⟨(0,[tv,.int .i64 y',.bool b'])::(1,[.str (ndOp a),.str (ndS a),.int .i64 (ndN a),.slice 24 cl' .no])::(2,[.str (ndOp a),.str (ndS a),.int .i64 (ndN a),.slice 24 cl' .no])::O,j+3,[]⟩) →
  za Tryz.prog (Pr.tab real) 86 c153 (Less (Fr K)) [(0,.ptr 0 0),(2,.ptr 1 0),(3,.ptr 2 0)] S:=by
 induction r with
 |zero=>
  intro S z b y o s k l cl _ _ _ _ _ _ _ _ hK
  obtain⟨_,_,_,h,_⟩:=hK
  cases h
 |succ r ih=>
  intro S z b y o s k l cl hr0 hr1 hr2 hnx hcp hy hz hcl hK
  obtain⟨j,hj⟩:=hnx
  refine za.front3 ?_
  rw[hr0,hr1,hr2,hj,hcp]
  obtain⟨O,hO⟩:∃ O,S.objs=O:=⟨_,rfl⟩
  rw[hO]
  clear hr0 hr1 hr2 hj hcp hO S
  have hkind:=fun R2 F F2 hF K Q hn hs=>ydp (t:=t) tv N R2 O j hgot F F2 hF K Q hn hs [W.k_left,W.k_right,W.k_full] _ rfl (by decide) (by decide) [W.k_left,W.k_right,W.k_full] 0 0
  apply jdz
  apply xb (mk:=Pr.tab)
  intro fail _ _ _ _ _ _ _ _ _ _ eqS _ _ _ _ _ _ _ _ _ _ _ _ _ not _ _ _ G
  have hnt:=G.not2
  have hnn:Nat.beq j j=true:=Nat.beq_refl j
  have hbb:Nat.ble j j=true:=Nat.ble_eq_true_of_le (Nat.le_refl j)
  cbv at hnn hbb
  have h00:eqS [] []=true:=by rw[G.eqS'];rfl
  have hw0:∀ w,(w == [])=false→eqS w []=false:=fun w h=>by rw[G.eqS'];exact h
  generalize hL:za Tryz.prog (Pr.tab real) 86 c153 (Less (Fr K))=L at *
  generalize hK':Less (Fr K)=K' at *
  cases b with
  |true=>
   have hK:=W.unbad1 hK
   cbv
   rw[hnt]
   cbv
   rw[← hK']
   exact exF3 (ENV:=[(0,.ptr 0 0),(2,.ptr 1 0),(3,.ptr 2 0)]) (.cons rfl (.cons rfl (.cons rfl (.nil _)))) rfl rfl rfl rfl (hK hz _ _ _ _ hy hcl).1
  |false=>
   have hK:=W.unbad0 hK
   cbv
   rw[hnt]
   cbv
   refine G.c' (hgot _ _ _ _ _ _ hy rfl hz (nb rfl) (W.mono (W.bd hK) fun q z b hK hz y hy=>?_))
   cases q with
   |true=>
    cbv
    refine G.c' (hmust _ _ _ _ _ _ hy rfl hz (nb rfl) (W.mono (W.bd hK) fun u z b hK hz y hy=>?_))
    cbv
    refine G.c' (hjn _ _ _ _ _ hy rfl hz (nb rfl) (W.mono (W.bd hK) fun x z b hK hz y hy cl2 hcl2=>?_))
    obtain⟨o2,s2,k2,l2⟩:=x
    cbv
    iterate 14 (first|(rw[hnn];try cbv)|(rw[hbb];try cbv)|refine G.n' rfl ?_|refine G.s' rfl ?_|cbv|skip)
    refine G.c' (va [.mk o s k l,.mk o2 s2 k2 l2] (by subst hcl hcl2;exact rfl) (.inl rfl) (by simp) fun cl4 hcl4=>?_)
    cbv
    iterate 14 (first|(rw[hnn];try cbv)|(rw[hbb];try cbv)|refine G.n' rfl ?_|refine G.s' rfl ?_|cbv|skip)
    have hgo:=fun S r0 r1 r2 hn hcp=>ih S z b y W.k_cross [] 0 [.mk o s k l,.mk o2 s2 k2 l2] cl4 r0 r1 r2 hn hcp hy hz hcl4 hK
    subst hL
    exact za.weak (env':=[(0,.ptr 0 0),(2,.ptr 1 0),(3,.ptr 2 0)]) (.cons rfl (.cons rfl (.cons rfl (.nil _)))) (hgo _ rfl rfl rfl ⟨_,rfl⟩ rfl)
   |false=>
   cbv
   refine G.n' rfl ?_
   refine G.l' ?_
   change za Tryz.prog (Pr.tab real) 86 c153i _ _ _
   refine za.relax (za.weak (env':=[(0,.ptr 0 0),(2,.ptr 1 0),(3,.ptr 2 0),(4,.str []),(5,.slice 9 [.str W.k_left,.str W.k_right,.str W.k_full] .exact),(6,.int .i64 0)]) (.cons rfl (.cons rfl (.cons rfl (.cons rfl (.cons rfl (.cons rfl (.nil _))))))) (hkind _ _ _ (fun _=>rfl) _ _ (fun z b y hy hz hK=>?_) (fun w ou z b y hw hy hz hK=>?_) _ _ _ rfl (Nat.zero_le _) rfl hy hz hK))
   ·cbv
    rw[h00]
    cbv
    refine G.c' (hgot _ _ _ _ _ _ hy rfl hz (nb rfl) (W.mono (W.bd hK) fun inner z b hK hz y hy=>?_))
    cbv
    refine G.c' (his _ _ _ _ _ _ hy rfl hz (nb rfl) (W.mono (W.bd hK) fun join z b hK hz y hy=>?_))
    cases inner<;>cases join<;>cbv<;>try rw[h00]
    ·cbv
     rw[hnt]
     cbv
     rw[hnt]
     cbv
     rw[← hK']
     exact exF3 (ENV:=[(2,.ptr 1 0)]) (.cons rfl (.nil _)) rfl rfl rfl rfl ((W.rt hK) hz _ _ _ _ hy hcl).2
    ·cbv
     repeat' (first|(rw[hnt];cbv)|fail)
     refine G.c' (hmust _ _ _ _ _ _ hy rfl hz (nb rfl) (W.mono (W.bd hK) fun u z b hK hz y hy=>?_))
     cbv
     iterate 14 (first|(rw[hnn];try cbv)|(rw[hbb];try cbv)|refine G.n' rfl ?_|refine G.s' rfl ?_|cbv|skip)
     try (rw[h00];cbv)
     refine G.c' (hjn _ _ _ _ _ hy rfl hz (nb rfl) (W.mono (W.bd hK) fun x z b hK hz y hy cl2 hcl2=>?_))
     obtain⟨o2,s2,k2,l2⟩:=x
     cbv
     iterate 14 (first|(rw[hnn];try cbv)|(rw[hbb];try cbv)|refine G.n' rfl ?_|refine G.s' rfl ?_|cbv|skip)
     refine G.c' (hmust _ _ _ _ _ _ hy rfl hz (nb rfl) (W.mono (W.bd hK) fun u z b hK hz y hy=>?_))
     cbv
     iterate 14 (first|(rw[hnn];try cbv)|(rw[hbb];try cbv)|refine G.n' rfl ?_|refine G.s' rfl ?_|cbv|skip)
     refine G.c' (hex _ _ _ _ _ hy rfl hz (nb rfl) (W.mono (W.bd hK) fun x z b hK hz y hy cl3 hcl3=>?_))
     obtain⟨o3,s3,k3,l3⟩:=x
     cbv
     iterate 14 (first|(rw[hnn];try cbv)|(rw[hbb];try cbv)|refine G.n' rfl ?_|refine G.s' rfl ?_|cbv|skip)
     refine G.c' (va [.mk o s k l,.mk o2 s2 k2 l2,.mk o3 s3 k3 l3] (by subst hcl hcl2 hcl3;exact rfl) (.inl rfl) (by simp) fun cl4 hcl4=>?_)
     cbv
     iterate 14 (first|(rw[hnn];try cbv)|(rw[hbb];try cbv)|refine G.n' rfl ?_|refine G.s' rfl ?_|cbv|skip)
     have hgo:=fun S r0 r1 r2 hn hcp=>ih S z b y W.k_inner [] 0 [.mk o s k l,.mk o2 s2 k2 l2,.mk o3 s3 k3 l3] cl4 r0 r1 r2 hn hcp hy hz hcl4 hK
     subst hL
     exact za.weak (env':=[(0,.ptr 0 0),(2,.ptr 1 0),(3,.ptr 2 0)]) (.cons rfl (.cons rfl (.cons rfl (.nil _)))) (hgo _ rfl rfl rfl ⟨_,rfl⟩ rfl)
    ·cbv
     repeat' (first|(rw[hnt];cbv)|fail)
     refine G.c' (hmust _ _ _ _ _ _ hy rfl hz (nb rfl) (W.mono (W.bd hK) fun u z b hK hz y hy=>?_))
     cbv
     iterate 14 (first|(rw[hnn];try cbv)|(rw[hbb];try cbv)|refine G.n' rfl ?_|refine G.s' rfl ?_|cbv|skip)
     try (rw[h00];cbv)
     refine G.c' (hjn _ _ _ _ _ hy rfl hz (nb rfl) (W.mono (W.bd hK) fun x z b hK hz y hy cl2 hcl2=>?_))
     obtain⟨o2,s2,k2,l2⟩:=x
     cbv
     iterate 14 (first|(rw[hnn];try cbv)|(rw[hbb];try cbv)|refine G.n' rfl ?_|refine G.s' rfl ?_|cbv|skip)
     refine G.c' (hmust _ _ _ _ _ _ hy rfl hz (nb rfl) (W.mono (W.bd hK) fun u z b hK hz y hy=>?_))
     cbv
     iterate 14 (first|(rw[hnn];try cbv)|(rw[hbb];try cbv)|refine G.n' rfl ?_|refine G.s' rfl ?_|cbv|skip)
     refine G.c' (hex _ _ _ _ _ hy rfl hz (nb rfl) (W.mono (W.bd hK) fun x z b hK hz y hy cl3 hcl3=>?_))
     obtain⟨o3,s3,k3,l3⟩:=x
     cbv
     iterate 14 (first|(rw[hnn];try cbv)|(rw[hbb];try cbv)|refine G.n' rfl ?_|refine G.s' rfl ?_|cbv|skip)
     refine G.c' (va [.mk o s k l,.mk o2 s2 k2 l2,.mk o3 s3 k3 l3] (by subst hcl hcl2 hcl3;exact rfl) (.inl rfl) (by simp) fun cl4 hcl4=>?_)
     cbv
     iterate 14 (first|(rw[hnn];try cbv)|(rw[hbb];try cbv)|refine G.n' rfl ?_|refine G.s' rfl ?_|cbv|skip)
     have hgo:=fun S r0 r1 r2 hn hcp=>ih S z b y W.k_inner [] 0 [.mk o s k l,.mk o2 s2 k2 l2,.mk o3 s3 k3 l3] cl4 r0 r1 r2 hn hcp hy hz hcl4 hK
     subst hL
     exact za.weak (env':=[(0,.ptr 0 0),(2,.ptr 1 0),(3,.ptr 2 0)]) (.cons rfl (.cons rfl (.cons rfl (.nil _)))) (hgo _ rfl rfl rfl ⟨_,rfl⟩ rfl)
    ·cbv
     repeat' (first|(rw[hnt];cbv)|fail)
     refine G.c' (hmust _ _ _ _ _ _ hy rfl hz (nb rfl) (W.mono (W.bd hK) fun u z b hK hz y hy=>?_))
     cbv
     iterate 14 (first|(rw[hnn];try cbv)|(rw[hbb];try cbv)|refine G.n' rfl ?_|refine G.s' rfl ?_|cbv|skip)
     try (rw[h00];cbv)
     refine G.c' (hjn _ _ _ _ _ hy rfl hz (nb rfl) (W.mono (W.bd hK) fun x z b hK hz y hy cl2 hcl2=>?_))
     obtain⟨o2,s2,k2,l2⟩:=x
     cbv
     iterate 14 (first|(rw[hnn];try cbv)|(rw[hbb];try cbv)|refine G.n' rfl ?_|refine G.s' rfl ?_|cbv|skip)
     refine G.c' (hmust _ _ _ _ _ _ hy rfl hz (nb rfl) (W.mono (W.bd hK) fun u z b hK hz y hy=>?_))
     cbv
     iterate 14 (first|(rw[hnn];try cbv)|(rw[hbb];try cbv)|refine G.n' rfl ?_|refine G.s' rfl ?_|cbv|skip)
     refine G.c' (hex _ _ _ _ _ hy rfl hz (nb rfl) (W.mono (W.bd hK) fun x z b hK hz y hy cl3 hcl3=>?_))
     obtain⟨o3,s3,k3,l3⟩:=x
     cbv
     iterate 14 (first|(rw[hnn];try cbv)|(rw[hbb];try cbv)|refine G.n' rfl ?_|refine G.s' rfl ?_|cbv|skip)
     refine G.c' (va [.mk o s k l,.mk o2 s2 k2 l2,.mk o3 s3 k3 l3] (by subst hcl hcl2 hcl3;exact rfl) (.inl rfl) (by simp) fun cl4 hcl4=>?_)
     cbv
     iterate 14 (first|(rw[hnn];try cbv)|(rw[hbb];try cbv)|refine G.n' rfl ?_|refine G.s' rfl ?_|cbv|skip)
     have hgo:=fun S r0 r1 r2 hn hcp=>ih S z b y W.k_inner [] 0 [.mk o s k l,.mk o2 s2 k2 l2,.mk o3 s3 k3 l3] cl4 r0 r1 r2 hn hcp hy hz hcl4 hK
     subst hL
     exact za.weak (env':=[(0,.ptr 0 0),(2,.ptr 1 0),(3,.ptr 2 0)]) (.cons rfl (.cons rfl (.cons rfl (.nil _)))) (hgo _ rfl rfl rfl ⟨_,rfl⟩ rfl)
   ·have hw:=hw0 w hw
    cbv
    rw[hw]
    cbv
    refine G.c' (his _ _ _ _ _ _ hy rfl hz (nb rfl) (W.mono (W.bd hK) fun join z b hK hz y hy=>?_))
    cbv
    rw[hw]
    cbv
    refine G.c' (hmust _ _ _ _ _ _ hy rfl hz (nb rfl) (W.mono (W.bd hK) fun u z b hK hz y hy=>?_))
    cbv
    iterate 14 (first|(rw[hnn];try cbv)|(rw[hbb];try cbv)|refine G.n' rfl ?_|refine G.s' rfl ?_|cbv|skip)
    try (rw[hw];cbv)
    refine G.c' (hjn _ _ _ _ _ hy rfl hz (nb rfl) (W.mono (W.bd hK) fun x z b hK hz y hy cl2 hcl2=>?_))
    obtain⟨o2,s2,k2,l2⟩:=x
    cbv
    iterate 14 (first|(rw[hnn];try cbv)|(rw[hbb];try cbv)|refine G.n' rfl ?_|refine G.s' rfl ?_|cbv|skip)
    refine G.c' (hmust _ _ _ _ _ _ hy rfl hz (nb rfl) (W.mono (W.bd hK) fun u z b hK hz y hy=>?_))
    cbv
    iterate 14 (first|(rw[hnn];try cbv)|(rw[hbb];try cbv)|refine G.n' rfl ?_|refine G.s' rfl ?_|cbv|skip)
    refine G.c' (hex _ _ _ _ _ hy rfl hz (nb rfl) (W.mono (W.bd hK) fun x z b hK hz y hy cl3 hcl3=>?_))
    obtain⟨o3,s3,k3,l3⟩:=x
    cbv
    iterate 14 (first|(rw[hnn];try cbv)|(rw[hbb];try cbv)|refine G.n' rfl ?_|refine G.s' rfl ?_|cbv|skip)
    refine G.c' (va [.mk o s k l,.mk o2 s2 k2 l2,.mk o3 s3 k3 l3] (by subst hcl hcl2 hcl3;exact rfl) (.inl rfl) (by simp) fun cl4 hcl4=>?_)
    cbv
    iterate 14 (first|(rw[hnn];try cbv)|(rw[hbb];try cbv)|refine G.n' rfl ?_|refine G.s' rfl ?_|cbv|skip)
    have hgo:=fun S r0 r1 r2 hn hcp=>ih S z b y w [] 0 [.mk o s k l,.mk o2 s2 k2 l2,.mk o3 s3 k3 l3] cl4 r0 r1 r2 hn hcp hy hz hcl4 hK
    subst hL
    exact za.weak (env':=[(0,.ptr 0 0),(2,.ptr 1 0),(3,.ptr 2 0)]) (.cons rfl (.cons rfl (.cons rfl (.nil _)))) (hgo _ rfl rfl rfl ⟨_,rfl⟩ rfl)
theorem qd4{t:List Tk}(ht:Toks t){n:Nat}(hj:Ok t 163 [] (joined t n) Nd.av)(he:Ok t 93 [] (expr t n) Nd.av):Ok t 153 [] (table t (n+1)) Nd.av:=by
 refine Ok.of2 (fun _ _=>rfl) (fun a _ _=>zh _ _ a) fun tv htv z b y K hy hz hK=>?_
 unfold table at hK
 have hgot:=fun s=>(zj ht.len s).lit
 simp only[← htv] at hgot
 have hmust:=fun s=>(jm ht.len s).lit
 simp only[← htv] at hmust
 have his:=fun s=>(zby ht.len 0 0 rfl (by decide) s).lit
 simp only[← htv] at his
 have hjn:=hj.litN
 rw[← htv] at hjn
 have hexpr:=he.litN
 rw[← htv] at hexpr
 clear htv
 generalize t.length=N at *
 have hloop:=table_loop (t:=t) (n:=n) tv N hgot hmust his hjn hexpr
 apply ja (un:=0) Pr.tabOk Pr.mixed Rf.fn153 (nb rfl)
 apply qb (mk:=Pr.tab)
 intro _ _ _ _ _ _ _ _ _ _ _ _ _ _ _ _ _ _ _ _ _ _ _ _ _ not _ _ _ G
 have hnt:=G.not2
 cbv
 refine G.c' (hjn _ _ _ _ _ hy rfl hz (nb rfl) (W.mono (W.bd hK) fun a z b hK hz y hy cl hcl=>?_))
 obtain⟨o,s,k,l⟩:=a
 cbv
 refine G.l' ?_
 change za Tryz.prog (Pr.tab real) 86 c153 _ _ _
 refine za.refr (za.relax (za.weak (env':=[(0,.ptr 0 0),(2,.ptr 1 0),(3,.ptr 2 0)]) (.cons rfl (.cons rfl (.cons rfl (.nil _)))) (hloop _ n _ _ _ _ o s k l cl rfl rfl rfl ⟨0,rfl⟩ rfl hy hz hcl (W.mono hK fun a z b hK hz y cl O j hy hcl=>⟨?_,?_⟩))))
 all_goals (obtain⟨o,s,k,l⟩:=a;cbv;exact FinL.go hK hy hz (yd hcl) rfl (nb rfl))
end Go.AM.Rf
namespace Go.AM.Rf
open Go.Proofs Go.AM.Ps Go.AM.W
def option(t:List Tk)(n:Nat):M (Option Nd):=bd (got t qah) fun q=>match q with
 |true=>bd (must t jy) fun _=>rt (some (.mk yb7 [] 0 []))
 |false=>bd (got t qy) fun q=>match q with
  |true=>bd (must t vbn) fun _=>rt (some (.mk qy [] 0 []))
  |false=>bd (got t yx) fun q=>match q with
   |true=>rt (some (.mk yx [] 0 []))
   |false=>bd (isT t 0 k_check) fun q=>match q with
    |true=>bd (checkE t n) fun e=>rt (some e)
    |false=>bd (got t qw) fun q=>match q with
     |true=>bd (name t) fun s=>rt (some (.mk qw s 0 []))
     |false=>rt none
def optV:Option Nd→AV
 |some a=> .tup [a.av,.bool true]
 |none=> .tup [.agg [.str [],.str [],.int .i64 0,.slice 0 [] .exact],.bool false]
theorem jd3(r:Option Nd)(f h:Nat→Option Nat):(optV r).ren f h=optV r:=by
 cases r with
 |none=>rfl
 |some x=>
  have:(x.av).ren f h=x.av:=zh _ _ _
  simp only[optV,AV.ren,renL,this]
theorem zeh{T:Tab}{v v' w:AV}(h:Sub T v v'):Sub T (.tup [v,w]) (.tup [v',w]):=by
 intro W g x hr
 cases hr with
 |tup _ _ xs hl hR=>
  exact .tup g _ xs hl fun j hj=>by
   match j,hj with
   | 0,_=>exact h W g _ (hR 0 (by simp))
   | 1,_=>exact hR 1 (by simp)
theorem jeh{o s:List UInt8}{k:Int}{l:List Nd}{cl:List AV}{m:Mode}(h:cl=avL l):Sub (Pr.tab real) (.tup [.agg [.str o,.str s,.int .i64 k,.slice 24 cl m],.bool true]) (optV (some (.mk o s k l))):=zeh (yd h)
theorem Rf.fn123:FnOk Tryz.prog 123 (fni Tryz.f123 Pr.a123):=⟨⟨Tryz.f123,Tryz.func123,rfl,rfl,rfl,by kernel_rfl⟩,by kernel_rfl⟩
theorem jdk{t:List Tk}(ht:Toks t)(hwd:Wd t){n:Nat}(he:Ok t 93 [] (expr t n) Nd.av):Ok t 123 [] (option t n) optV:=by
 refine Ok.of2 (fun _ _=>rfl) (fun a f h=>jd3 a f h) fun tv htv z b y K hy hz hK=>?_
 unfold option at hK
 have hgot:=fun s=>(zj ht.len s).lit
 simp only[← htv] at hgot
 have hmust:=fun s=>(jm ht.len s).lit
 simp only[← htv] at hmust
 have his:=(zby ht.len 0 0 rfl (by decide) W.k_check).lit
 rw[← htv] at his
 have hname:=(qv ht hwd).lit
 rw[← htv] at hname
 have hcheck:=(vcr ht he).litN
 rw[← htv] at hcheck
 have hl6:=ht.len
 clear htv
 apply ja (un:=0) Pr.tabOk Pr.mixed Rf.fn123 (nb rfl)
 apply qb (mk:=Pr.tab)
 intro fail _ _ _ _ _ _ _ _ _ _ _ _ _ _ _ _ _ _ _ _ _ _ _ _ not _ _ _ G
 have hnt:=G.not2
 generalize t.length=N at *
 cbv
 repeat' (first
  |(refine G.c' (hgot _ _ _ _ _ _ hy rfl hz (nb rfl) (W.mono (W.bd hK) fun a z b hK hz y hy=>?_));cases a<;>cbv)
  |(refine G.c' (his _ _ _ _ _ hy rfl hz (nb rfl) (W.mono (W.bd hK) fun a z b hK hz y hy=>?_));cases a<;>cbv)
  |(refine G.c' (hmust _ _ _ _ _ _ hy rfl hz (nb rfl) (W.mono (W.bd hK) fun a z b hK hz y hy=>?_));cbv)
  |(refine G.c' (hname _ _ _ _ _ hy rfl hz (nb rfl) (W.mono (W.bd hK) fun a z b hK hz y hy=>?_));cbv)
  |(refine G.c' (hcheck _ _ _ _ _ hy rfl hz (nb rfl) (W.mono (W.bd hK) fun a z b hK hz y hy cl hcl=>?_));obtain⟨o,s,k,l⟩:=a;cbv)
  |(refine G.c' (va [] (by exact rfl) (.inr rfl) (by simp) fun cl hcl=>?_);cbv)
  |exact(W.rt hK).go hy hz (jeh (by subst_vars;exact rfl)) rfl (nb rfl)
  |exact(W.rt hK).go hy hz (Sub.refl _ _) rfl (nb rfl)
  |fail)
end Go.AM.Rf
namespace Go.AM.Rf
open Go.Proofs Go.AM.Ps Go.AM.W
def opts(t:List Tk)(n:Nat):Nat→List Nd→M (List Nd)
 | 0,_=>Rf.out
 |r+1,acc=>unbad acc (bd (option t n) fun o=>match o with
  |none=>rt acc
  |some x=>opts t n r (acc++[x]))
def element(t:List Tk)(n:Nat):M Nd:=bd (got t qy) fun q=>match q with
 |true=>bd (must t vbn) fun _=>bd (names t n) fun l=>rt (.mk qy [] 0 l)
 |false=>bd (got t yx) fun q=>match q with
  |true=>bd (names t n) fun l=>rt (.mk yx [] 0 l)
  |false=>bd (isT t 0 k_check) fun q=>match q with
   |true=>checkE t n
   |false=>bd (got t va1) fun q=>match q with
    |true=>bd (must t vbn) fun _=>bd (names t n) fun l=>bd (must t qw) fun _=>bd (name t) fun s=>rt (.mk va1 s 0 l)
    |false=>bd (name t) fun s=>bd (typed t) fun ty=>bd (opts t n n [ty]) fun l=>rt (.mk qae s 0 l)
theorem names_len{t:List Tk}{n:Nat}(hn:n≤1000000000)(a:List Nd)(z:Nat)(b:Bool)(z':Nat)(b':Bool)(h:names t n z b=some (a,z',b')):1≤a.length∧a.length≤1000000001:=by
 unfold names Rf.bd at h
 cases h1:must t W.g_par z b with
 |none=>rw[h1] at h;cases h
 |some r=>
  obtain⟨u,z1,b1⟩:=r
  rw[h1] at h
  simp only at h
  cases h2:Rf.list t (aName t) n z1 b1 with
  |none=>rw[h2] at h;cases h
  |some r=>
   obtain⟨l,z2,b2⟩:=r
   rw[h2] at h
   simp only at h
   have:=qbz h2
   cases h3:must t W.g_rap z2 b2 with
   |none=>rw[h3] at h;cases h
   |some r=>
    obtain⟨u,z3,b3⟩:=r
    rw[h3] at h
    simp only[Rf.rt,Option.some.injEq,Prod.mk.injEq] at h
    rw[← h.1]
    omega
def LitO(tv:AV)(N:Nat)(m:M (Option Nd)):Prop:=
 ∀(z:Nat) (b:Bool) (y:Int) (S:St) (K:Out→St→Prop),y=z→S.row 0=[tv,.int .i64 y,.bool b]→z≤N→0<S.next →
  W m z b (fun a z' b'=>z'≤N→∀ y':Int,y'=z'→(a=none→K (.ret (.tup [.agg [.str [],.str [],.int .i64 0,.slice 0 [] .exact],.bool false])) (S.set 0 [tv,.int .i64 y',.bool b']))∧(∀ o s k l cl,a=some (.mk o s k l)→cl=avL l→K (.ret (.tup [.agg [.str o,.str s,.int .i64 k,.slice 24 cl .no],.bool true])) (S.set 0 [tv,.int .i64 y',.bool b']))) →
  jb Tryz.prog (Pr.tab real) 123 [.ptr 0 0] S K
theorem Lit.opt{tv:AV}{N:Nat}{m:M (Option Nd)}(h:Lit tv N 123 [] m optV):LitO tv N m:=fun z b y S K hy hr hz ho hW=>
 h z b y S K hy hr hz ho (hW.mono fun a z' b' hK hz' y' hy'=>by
  have:=hK hz' y' hy'
  cases a with
  |none=>exact this.1 rfl
  |some x=>
   obtain⟨o,s,k,l⟩:=x
   exact this.2 o s k l _ rfl rfl)
theorem Rf.fn88:FnOk Tryz.prog 88 (fni Tryz.f88 Pr.a88):=⟨⟨Tryz.f88,Tryz.func88,rfl,rfl,rfl,by kernel_rfl⟩,by kernel_rfl⟩
inductive GrowsE:Mode→List AV→List Int→Prop where
 |fresh (v:AV):GrowsE .exact [v] []
 |own (cs:List AV) (nn:Int) (h:nn=cs.length):GrowsE (.own 0) cs [nn]
noncomputable def c88:Code:=(fni Tryz.f88 Pr.a88).loop 0
theorem Rf.c88:qf 64 Pr.a88 c88=true:=by kernel_rfl
theorem qeq(K:Ex→Env→St→Prop)(env:Env)(S:St)(h:xg (pAlg Tryz.prog (Pr.tab real) 64) (Pr.tab real) Pr.a88 0 c88 (andThen (za Tryz.prog (Pr.tab real) 64 c88 K) K) env S):za Tryz.prog (Pr.tab real) 64 c88 K env S:=
 vc Pr.tabOk Pr.mixed Rf.c88 h
theorem opts_loop{t:List Tk}{n:Nat}(tv:AV)(N:Nat)(hopt:LitO tv N (option t n))(nm:List UInt8)(K:Ex→Env→St→Prop)(r:Nat) :
 ∀(S:St) (z:Nat) (b:Bool) (y:Int) (acc:List Nd) (cs:List AV) (m:Mode) (caps:List Int),S.row 0=[tv,.int .i64 y,.bool b]→S.row 1=[.str [],.str [],.int .i64 0,.slice 0 [] .exact]→(∃ k,S.next=k+2)→S.caps=caps→y=z→z≤N→cs=avL acc→GrowsE m cs caps→acc.length+r≤2000000000 →
  W (opts t n r acc) z b (fun a z' b'=>z'≤N→∀(y':Int) (cl':List AV) (m':Mode) (caps':List Int) (O:List (Nat × List AV)) (j:Nat),y'=z'→cl'=avL a→a.length≤2000000000→GrowsE m' cl' caps'→K (.exit 1) [(0,.ptr 0 0),(2,.ptr 1 0),(4,.str nm),(5,.slice 24 cl' m')] ⟨(0,[tv,.int .i64 y',.bool b'])::(1,[.str [],.str [],.int .i64 0,.slice 0 [] .exact])::O,j+2,caps'⟩) →
  za Tryz.prog (Pr.tab real) 64 c88 (Less (Fr K)) [(0,.ptr 0 0),(2,.ptr 1 0),(4,.str nm),(5,.slice 24 cs m)] S:=by
 induction r with
 |zero=>
  intro S z b y acc cs m caps _ _ _ _ _ _ _ _ _ hK
  obtain⟨_,_,_,h,_⟩:=hK
  cases h
 |succ r ih=>
  intro S z b y acc cs m caps hr0 hr1 hnx hcp hy hz hcs hg hal hK
  obtain⟨j,hj⟩:=hnx
  refine za.front2 ?_
  rw[hr0,hr1,hj,hcp]
  obtain⟨O,hO⟩:∃ O,S.objs=O:=⟨_,rfl⟩
  rw[hO]
  clear hr0 hr1 hj hcp hO S
  have hlen:cs.length≤2000000000:=by rw[hcs,xd,List.length_map];omega
  have happ':∀ op s k l cl,cl=avL l→cs++[.agg [.str op,.str s,.int .i64 k,.slice 24 cl .no]]=avL (acc++[.mk op s k l]):=by
   intro op s k l cl hcl
   rw[hcs,hcl,xd acc,xd (acc++_),List.map_append];rfl
  have hg0:=hg
  apply qeq
  apply xb (mk:=Pr.tab)
  intro _ _ _ _ _ len _ _ _ cmp _ _ _ _ app _ _ _ _ _ _ _ _ _ room not _ _ _ G
  have hnt:=G.not2
  have hnn:Nat.beq j j=true:=Nat.beq_refl j
  have hbb:Nat.ble j j=true:=Nat.ble_eq_true_of_le (Nat.le_refl j)
  cbv at hnn hbb
  have hX:∀ op s k l cl,cl=avL l→∃(cc:List AV) (nn:Int),app cs [.agg [.str op,.str s,.int .i64 k,.slice 24 cl .no]]=cc∧room (len cc) 64=true∧len cc=nn∧cc=avL (acc++[.mk op s k l])∧GrowsE (.own 0) cc [nn]:=by
   intro op s k l cl hcl
   refine⟨_,_,rfl,?_,rfl,?_,?_⟩
   ·rw[G.app',G.room',G.len'];simp;omega
   ·rw[G.app'];exact happ' op s k l cl hcl
   ·rw[G.app',G.len'];exact .own _ _ rfl
  have h01:∀ x,cmp BinOp.lss 0 (len [x])=true:=fun x=>by rw[G.cmp',G.len'];rfl
  have heqc:∀ n2:Int,n2=cs.length→cmp BinOp.eql n2 (len cs)=true:=fun n2 h=>by rw[G.cmp',G.len',h];simp[vb]
  generalize hL:za Tryz.prog (Pr.tab real) 64 c88 (Less (Fr K))=L at *
  generalize hK':Less (Fr K)=K' at *
  clear hlen happ'
  have hal2:acc.length≤2000000000:=by omega
  cases b with
  |true=>
   have hK:=W.unbad1 hK
   cbv
   rw[hnt]
   cbv
   rw[← hK']
   exact exF2 (ENV:=[(0,.ptr 0 0),(2,.ptr 1 0),(4,.str nm),(5,.slice 24 cs m)]) (.cons rfl (.cons rfl (.cons rfl (.cons rfl (.nil _))))) rfl rfl rfl (hK hz _ _ _ _ _ _ hy hcs hal2 hg0)
  |false=>
   have hK:=W.unbad0 hK
   cases hg with
   |fresh v=>
    cbv
    rw[hnt]
    cbv
    refine G.c' (hopt _ _ _ _ _ hy rfl hz (nb rfl) (W.mono (W.bd hK) fun a z b hK hz y hy=>⟨fun ha=>?_,fun o s k l cl ha hcl=>?_⟩))
    ·subst ha
     iterate 10 (first|(rw[hnn];try cbv)|(rw[hbb];try cbv)|refine G.n' rfl ?_|refine G.s' rfl ?_|cbv|skip)
     rw[hnt]
     iterate 10 (first|(rw[hnn];try cbv)|(rw[hbb];try cbv)|refine G.n' rfl ?_|refine G.s' rfl ?_|cbv|skip)
     rw[← hK']
     exact exF2 (ENV:=[(0,.ptr 0 0),(2,.ptr 1 0),(4,.str nm),(5,.slice 24 [v] .exact)]) (.cons rfl (.cons rfl (.cons rfl (.cons rfl (.nil _))))) rfl rfl rfl ((W.rt hK) hz _ _ _ _ _ _ hy hcs hal2 hg0)
    ·subst ha
     obtain⟨cc,nn,h1,h2,h3,h4,h5⟩:=hX o s k l cl hcl
     have h6:=h01 (AV.agg [.str o,.str s,.int .i64 k,.slice 24 cl .no])
     have hgo:=fun S r0 r1 hn hcp=>ih S z b y (acc++[.mk o s k l]) cc (.own 0) [nn] r0 r1 hn hcp hy hz h4 h5 (by simp only[List.length_append,List.length_cons,List.length_nil];omega) hK
     clear hX ih
     iterate 10 (first|(rw[hnn];try cbv)|(rw[hbb];try cbv)|refine G.n' rfl ?_|refine G.s' rfl ?_|cbv|skip)
     rw[hnt]
     iterate 10 (first|(rw[hnn];try cbv)|(rw[hbb];try cbv)|refine G.n' rfl ?_|refine G.s' rfl ?_|cbv|skip)
     rw[h1]
     refine G.n' h2 (G.n' h6 ?_)
     rw[h3,← hL] at *
     exact za.weak (env':=[(0,.ptr 0 0),(2,.ptr 1 0),(4,.str nm),(5,.slice 24 cc (.own 0))]) (.cons rfl (.cons rfl (.cons rfl (.cons rfl (.nil _))))) (hgo _ rfl rfl ⟨_,rfl⟩ rfl)
   |own cs n2 hn2=>
    have hq2:=heqc n2 hn2
    cbv
    rw[hnt]
    cbv
    refine G.c' (hopt _ _ _ _ _ hy rfl hz (nb rfl) (W.mono (W.bd hK) fun a z b hK hz y hy=>⟨fun ha=>?_,fun o s k l cl ha hcl=>?_⟩))
    ·subst ha
     iterate 10 (first|(rw[hnn];try cbv)|(rw[hbb];try cbv)|refine G.n' rfl ?_|refine G.s' rfl ?_|cbv|skip)
     rw[hnt]
     iterate 10 (first|(rw[hnn];try cbv)|(rw[hbb];try cbv)|refine G.n' rfl ?_|refine G.s' rfl ?_|cbv|skip)
     rw[← hK']
     exact exF2 (ENV:=[(0,.ptr 0 0),(2,.ptr 1 0),(4,.str nm),(5,.slice 24 cs (.own 0))]) (.cons rfl (.cons rfl (.cons rfl (.cons rfl (.nil _))))) rfl rfl rfl ((W.rt hK) hz _ _ _ _ _ _ hy hcs hal2 hg0)
    ·subst ha
     obtain⟨cc,nn,h1,h2,h3,h4,h5⟩:=hX o s k l cl hcl
     have h6:=h01 (AV.agg [.str o,.str s,.int .i64 k,.slice 24 cl .no])
     have hgo:=fun S r0 r1 hn hcp=>ih S z b y (acc++[.mk o s k l]) cc (.own 0) [nn] r0 r1 hn hcp hy hz h4 h5 (by simp only[List.length_append,List.length_cons,List.length_nil];omega) hK
     clear hX ih
     iterate 10 (first|(rw[hnn];try cbv)|(rw[hbb];try cbv)|refine G.n' rfl ?_|refine G.s' rfl ?_|cbv|skip)
     rw[hnt]
     iterate 10 (first|(rw[hnn];try cbv)|(rw[hbb];try cbv)|refine G.n' rfl ?_|refine G.s' rfl ?_|cbv|skip)
     rw[h1]
     refine G.n' h2 (G.n' hq2 ?_)
     rw[h3,← hL] at *
     exact za.weak (env':=[(0,.ptr 0 0),(2,.ptr 1 0),(4,.str nm),(5,.slice 24 cc (.own 0))]) (.cons rfl (.cons rfl (.cons rfl (.cons rfl (.nil _))))) (hgo _ rfl rfl ⟨_,rfl⟩ rfl)
theorem yc3{t:List Tk}(ht:Toks t)(hwd:Wd t){n:Nat}(hn:n≤1000000000)(he:Ok t 93 [] (expr t n) Nd.av):Ok t 88 [] (element t n) Nd.av:=by
 refine Ok.of2 (fun _ _=>rfl) (fun a _ _=>zh _ _ a) fun tv htv z b y K hy hz hK=>?_
 unfold element at hK
 have hgot:=fun s=>(zj ht.len s).lit
 simp only[← htv] at hgot
 have hmust:=fun s=>(jm ht.len s).lit
 simp only[← htv] at hmust
 have hname:=(qv ht hwd).lit
 rw[← htv] at hname
 have his:=(zby ht.len 0 0 rfl (by decide) W.k_check).lit
 rw[← htv] at his
 have hnames:=(vbx ht hwd hn).litL
 rw[← htv] at hnames
 have hcheck:=(vcr ht he).litN
 rw[← htv] at hcheck
 have htyped:=(xcr ht).litN
 rw[← htv] at htyped
 have hopt:=(jdk ht hwd he).lit
 rw[← htv] at hopt
 clear htv
 generalize t.length=N at *
 have hnl:=fun a z b z' b' h=>names_len (t:=t) hn a z b z' b' h
 have hloop:=opts_loop (t:=t) (n:=n) tv N hopt.opt
 apply ja (un:=0) Pr.tabOk Pr.mixed Rf.fn88 (nb rfl)
 apply qb (mk:=Pr.tab)
 intro fail _ _ _ _ _ _ _ _ _ _ _ _ _ _ _ _ _ _ _ _ _ _ _ _ not _ _ _ G
 have hnt:=G.not2
 cbv
 refine G.c' (hgot _ _ _ _ _ _ hy rfl hz (nb rfl) (W.mono (W.bd hK) fun q z b hK hz y hy=>?_))
 cases q with
 |true=>
  cbv
  repeat' (first
   |(refine G.c' (hmust _ _ _ _ _ _ hy rfl hz (nb rfl) (W.mono (W.bd hK) fun a z b hK hz y hy=>?_));cbv)
   |(refine G.c' (hnames _ _ _ _ _ hy rfl hz (nb rfl) (W.mono (W.with (W.bd hK) fun a z' b' h=>hnl a z _ z' b' h) fun a z b hK hz y hy cl hcl=>?_));obtain⟨hne,hK⟩:=hK;have hclA:=hcl;cbv)
   |(refine G.c' (va _ hclA (.inl rfl) (Nat.le_trans hne.2 (by decide)) fun cl hcl=>?_);cbv)
   |exact(W.rt hK).go hy hz (yd (by subst_vars;exact rfl)) rfl (nb rfl)
   |fail)
 |false=>
 cbv
 refine G.c' (hgot _ _ _ _ _ _ hy rfl hz (nb rfl) (W.mono (W.bd hK) fun q z b hK hz y hy=>?_))
 cases q with
 |true=>
  cbv
  repeat' (first
   |(refine G.c' (hnames _ _ _ _ _ hy rfl hz (nb rfl) (W.mono (W.with (W.bd hK) fun a z' b' h=>hnl a z _ z' b' h) fun a z b hK hz y hy cl hcl=>?_));obtain⟨hne,hK⟩:=hK;have hclA:=hcl;cbv)
   |(refine G.c' (va _ hclA (.inl rfl) (Nat.le_trans hne.2 (by decide)) fun cl hcl=>?_);cbv)
   |exact(W.rt hK).go hy hz (yd (by subst_vars;exact rfl)) rfl (nb rfl)
   |fail)
 |false=>
 cbv
 refine G.c' (his _ _ _ _ _ hy rfl hz (nb rfl) (W.mono (W.bd hK) fun q z b hK hz y hy=>?_))
 cases q with
 |true=>
  cbv
  repeat' (first
   |(refine G.c' (hcheck _ _ _ _ _ hy rfl hz (nb rfl) (W.mono hK fun a z b hK hz y hy cl hcl=>?_));obtain⟨o,s,k,l⟩:=a;cbv)
   |exact FinL.go hK hy hz (yd (by subst_vars;exact rfl)) rfl (nb rfl)
   |fail)
 |false=>
 cbv
 refine G.c' (hgot _ _ _ _ _ _ hy rfl hz (nb rfl) (W.mono (W.bd hK) fun q z b hK hz y hy=>?_))
 cases q with
 |true=>
  cbv
  repeat' (first
   |(refine G.c' (hmust _ _ _ _ _ _ hy rfl hz (nb rfl) (W.mono (W.bd hK) fun a z b hK hz y hy=>?_));cbv)
   |(refine G.c' (hname _ _ _ _ _ hy rfl hz (nb rfl) (W.mono (W.bd hK) fun a z b hK hz y hy=>?_));cbv)
   |(refine G.c' (hnames _ _ _ _ _ hy rfl hz (nb rfl) (W.mono (W.with (W.bd hK) fun a z' b' h=>hnl a z _ z' b' h) fun a z b hK hz y hy cl hcl=>?_));obtain⟨hne,hK⟩:=hK;have hclA:=hcl;cbv)
   |(refine G.c' (va _ hclA (.inl rfl) (Nat.le_trans hne.2 (by decide)) fun cl hcl=>?_);cbv)
   |exact(W.rt hK).go hy hz (yd (by subst_vars;exact rfl)) rfl (nb rfl)
   |fail)
 |false=>
 cbv
 refine G.c' (hname _ _ _ _ _ hy rfl hz (nb rfl) (W.mono (W.bd hK) fun w z b hK hz y hy=>?_))
 cbv
 refine G.c' (htyped _ _ _ _ _ hy rfl hz (nb rfl) (W.mono (W.bd hK) fun a z b hK hz y hy cl hcl=>?_))
 obtain⟨o,s,k,l⟩:=a
 cbv
 refine G.n' rfl ?_
 refine G.l' ?_
 change za Tryz.prog (Pr.tab real) 64 c88 _ _ _
 refine za.refr (za.relax (za.weak (env':=[(0,.ptr 0 0),(2,.ptr 1 0),(4,.str w),(5,.slice 24 [.agg [.str o,.str s,.int .i64 k,.slice 24 cl .no]] .exact)]) (.cons rfl (.cons rfl (.cons rfl (.cons rfl (.nil _))))) (hloop w _ n _ _ _ _ [.mk o s k l] _ _ _ rfl rfl ⟨0,rfl⟩ rfl hy hz (by subst hcl;rfl) (.fresh _) (by simp;omega) (W.mono (W.bd hK) fun a z b hK hz y cl2 m caps O j hy hcl2 hal hg=>?_))))
 cbv
 refine G.c' (va a hcl2 (.inl rfl) hal fun cl3 hcl3=>?_)
 cbv
 exact FinL.go (W.rt hK) hy hz (yd hcl3) rfl (nb rfl)
end Go.AM.Rf
