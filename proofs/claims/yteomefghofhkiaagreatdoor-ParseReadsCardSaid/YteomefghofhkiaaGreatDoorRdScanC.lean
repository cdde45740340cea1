/- The document's scanner, and what it answers. -/
import Derived.Test.YteomefghofhkiaaGreatDoorRdScanB
set_option maxRecDepth 100000
set_option maxHeartbeats 2000000
set_option linter.unusedVariables false
namespace Go.AM
open Go.Proofs
theorem Pl.fn28:FnOk Tryz.prog 28 (fni Tryz.f28 Pr.a28):=⟨⟨Tryz.f28,Tryz.func28,rfl,rfl,rfl,by kernel_rfl⟩,by kernel_rfl⟩
noncomputable def c18:Code:=(fni Tryz.f28 Pr.a28).loop 0
theorem Pl.c18:qf 55 Pr.a28 c18=true:=by kernel_rfl
theorem zed(K:Ex→Env→St→Prop)(env:Env)(S:St)(h:xg (pAlg Tryz.prog (Pr.tab real) 55) (Pr.tab real) Pr.a28 0 c18 (andThen (za Tryz.prog (Pr.tab real) 55 c18 K) K) env S):za Tryz.prog (Pr.tab real) 55 c18 K env S:=
 vc Pr.tabOk Pr.mixed Pl.c18 h
def qay(s:List UInt8)(z y:Int)(l:List UInt8):Env:=[(0,.str s),(1,.int .i64 z),(4,.ptr 0 0),(7,.int .i64 y),(8,.str l)]
theorem jdm(c:UInt8):((low c).toNat:Int)=if 65≤c.toNat∧c.toNat≤90 then (c.toNat:Int)+32 else c.toNat:=by
 unfold low
 have hb:=c.toNat_lt
 by_cases h:65≤c.toNat∧c.toNat≤90
 ·rw[if_pos h,if_pos h,UInt8.toNat_add]
  have:(32:UInt8).toNat=32:=rfl
  rw[this]
  omega
 ·rw[if_neg h,if_neg h]
theorem ydb(s:List UInt8)(hs:s.length≤1000000)(i:Nat)(z:Int)(hz:z=i)(S:St)(K:Ex→Env→St→Prop)(m:Nat) :
 ∀(n:Nat) (y:Int) (l:List UInt8),y=n→i+n+m=s.length→l.length=n →
  (∀(y':Int),y'=n+((s.drop (i+n)).takeWhile xj).length→K (.exit 0) (qay s z y' (l++((s.drop (i+n)).takeWhile xj).map low)) S) →
  za Tryz.prog (Pr.tab real) 55 c18 (Less K) (qay s z y l) S:=by
 induction m with
 |zero=>
  intro n y l hy hm hl hK
  have hfin:K (.exit 0) (qay s z y l) S:=by
   have:=hK y (by rw[List.drop_eq_nil_of_le (by omega)];simpa using hy)
   rw[List.drop_eq_nil_of_le (by omega)] at this
   simpa using this
  apply zed
  apply xb (mk:=Pr.tab)
  intro fail need same call loop len slen arith shift cmp conv eqS ltS cat app elt byt subS subL strOf isB fit inb cut room not and eqB avs G
  generalize hL:za Tryz.prog (Pr.tab real) 55 c18 (Less K)=L
  generalize hK':Less K=K'
  have hadd:arith BinOp.add IntKind.i64 z y=z+y:=by rw[G.arith'];exact wrap_i64 _ (by omega) (by omega)
  have hb:cmp BinOp.lss (z+y) (slen s)=false:=by rw[G.cmp',G.slen'];simp[vb];omega
  cbv
  refine G.n' rfl (G.n' rfl ?_)
  rw[hadd,hb]
  cbv
  rw[← hK']
  exact⟨qay s z y l,.cons rfl (.cons rfl (.cons rfl (.cons rfl (.cons rfl (.nil _))))),hfin⟩
 |succ m ih=>
  intro n y l hy hm hl hK
  have hlt:i+n<s.length:=by omega
  have hdrop:s.drop (i+n)=s[i+n]::s.drop (i+n+1):=List.drop_eq_getElem_cons hlt
  obtain⟨c,hc⟩:∃ c,s[i+n]=c:=⟨_,rfl⟩
  rw[hc] at hdrop
  have hfin:ve c=false→jc c=false→K (.exit 0) (qay s z y l) S:=fun h1 h2=>by
   have hw:xj c=false:=by unfold xj;rw[h1,h2];rfl
   have h3:(s.drop (i+n)).takeWhile xj=[]:=by rw[hdrop,List.takeWhile_cons,hw];simp
   have:=hK y (by rw[h3];simpa using hy)
   rw[h3] at this
   simpa using this
  have hgo:(ve c=true∨jc c=true)→za Tryz.prog (Pr.tab real) 55 c18 (Less K) (qay s z (y+1) (l++[low c])) S:=fun h1=>by
   have hw:xj c=true:=by unfold xj;rcases h1 with h|h<;>simp[h]
   have h3:(s.drop (i+n)).takeWhile xj=c::(s.drop (i+(n+1))).takeWhile xj:=by rw[hdrop,List.takeWhile_cons,hw,← Nat.add_assoc];simp
   refine ih (n+1) (y+1) (l++[low c]) (by omega) (by omega) (by simp[hl]) fun y' hy'=>?_
   have:=hK y' (by rw[h3,hy'];simp only[List.length_cons];omega)
   rw[h3] at this
   simpa using this
  clear ih hK
  obtain⟨cz,hcz⟩:∃ cz:Int,cz=c.toNat:=⟨_,rfl⟩
  obtain⟨lz,hlz⟩:∃ lz:Int,lz=(low c).toNat:=⟨_,rfl⟩
  have hlz':lz=if 65≤c.toNat∧c.toNat≤90 then cz+32 else cz:=by rw[hlz,hcz];exact jdm c
  apply zed
  apply xb (mk:=Pr.tab)
  intro _ _ _ _ _ _ slen arith _ cmp _ _ _ cat _ _ byt _ _ strOf isB fit inb _ _ not _ _ _ G
  have hadd:arith BinOp.add IntKind.i64 z y=z+y:=by rw[G.arith'];exact wrap_i64 _ (by omega) (by omega)
  have hone:arith BinOp.add IntKind.i64 y 1=y+1:=by rw[G.arith'];exact wrap_i64 _ (by omega) (by omega)
  have hb:cmp BinOp.lss (z+y) (slen s)=true:=by rw[G.cmp',G.slen'];simp[vb];omega
  have hin:inb (z+y) (slen s)=true:=by rw[G.inb',G.slen'];simp;omega
  have hbyt:byt s (z+y)=cz:=by
   rw[G.byt',hz,hy,hcz,← hc];simp only[];rw[show ((i:Int)+(n:Int)).toNat=i+n by omega];simp[List.getD_eq_getElem?_getD,hlt]
  have hA:∀ S K,K (.ret (.bool (ve c))) S→jb Tryz.prog (Pr.tab real) 26 [.int .u8 cz] S K:=fun S K h=>by rw[hcz];exact ydw c S K h
  have hD:∀ S K,K (.ret (.bool (jc c))) S→jb Tryz.prog (Pr.tab real) 27 [.int .u8 cz] S K:=fun S K h=>by rw[hcz];exact vdw c S K h
  have h65:cmp BinOp.geq cz 65=decide (65≤c.toNat):=by rw[G.cmp',hcz];simp only[vb];rw[Bool.eq_iff_iff];simp only[decide_eq_true_eq];omega
  have h90:cmp BinOp.leq cz 90=decide (c.toNat≤90):=by rw[G.cmp',hcz];simp only[vb];rw[Bool.eq_iff_iff];simp only[decide_eq_true_eq];omega
  have hup:decide (65≤c.toNat)=true→decide (c.toNat≤90)=true→arith BinOp.add IntKind.u8 cz 32=lz:=fun h1 h2=>by
   have h1':=of_decide_eq_true h1
   have h2':=of_decide_eq_true h2
   rw[hlz',if_pos ⟨h1',h2'⟩,G.arith']
   simp only[zaw]
   rw[IntKind.wrap_u8]
   omega
  have hsame:decide (65≤c.toNat)=false∨decide (c.toNat≤90)=false→cz=lz:=fun h=>by
   rw[hlz',if_neg]
   rintro⟨h1,h2⟩
   rcases h with h|h
   ·exact of_decide_eq_false h h1
   ·exact of_decide_eq_false h h2
  have hisB:isB [.int .u8 lz]=true:=by rw[G.isB'];rfl
  have hstr:strOf [.int .u8 lz]=[low c]:=by rw[G.strOf',hlz];simp[qbl]
  have hfit:fit l [low c]=true:=by rw[G.fit'];simp;omega
  have hcat:cat l [low c]=l++[low c]:=by rw[G.cat']
  have hn1:not true=false:=by rw[G.not'];rfl
  have hn0:not false=true:=by rw[G.not'];rfl
  generalize hL:za Tryz.prog (Pr.tab real) 55 c18 (Less K)=L at hgo ⊢
  generalize hK':Less K=K' at hL ⊢
  generalize hll:l++[low c]=l2 at *
  generalize [low c]=lc1 at *
  generalize hq1:ve c=q1 at *
  generalize hq2:jc c=q2 at *
  generalize hd1:decide (65≤c.toNat)=d1 at *
  generalize hd2:decide (c.toNat≤90)=d2 at *
  generalize hy1:y+1=y1 at *
  generalize hzy:z+y=zy at *
  clear hlz' hlz hcz hll hq1 hq2 hd1 hd2
  have rest:(q1=true∨q2=true)→L (qay s z y1 l2) S:=hgo
  cbv
  refine G.n' rfl (G.n' rfl ?_)
  rw[hadd,hb]
  cbv
  refine G.n' rfl ?_
  rw[hadd]
  refine G.n' hin ?_
  rw[hbyt]
  refine G.c' (hA _ _ ?_)
  cbv
  refine G.c' (hD _ _ ?_)
  cbv
  cases q1 with
  |false=>
   rw[hn0]
   cbv
   cases q2 with
   |false=>
    rw[hn0]
    cbv
    rw[← hK']
    exact⟨qay s z y l,.cons rfl (.cons rfl (.cons rfl (.cons rfl (.cons rfl (.nil _))))),hfin rfl rfl⟩
   |true=>
    have rest:=rest (.inr rfl)
    rw[hn1]
    cbv
    refine G.n' rfl ?_
    rw[h65]
    cases d1 with
    |false=>
     have he:=hsame (.inl rfl)
     cbv
     rw[he]
     refine G.n' rfl (G.n' hisB ?_)
     rw[hstr]
     refine G.n' hfit ?_
     rw[hcat]
     refine G.n' rfl ?_
     rw[hone]
     rw[← hL] at rest ⊢
     exact za.weak (env':=qay s z y1 l2) (.cons rfl (.cons rfl (.cons rfl (.cons rfl (.cons rfl (.nil _)))))) rest
    |true=>
     cbv
     refine G.n' rfl ?_
     rw[h90]
     cases d2 with
     |false=>
      have he:=hsame (.inr rfl)
      cbv
      rw[he]
      refine G.n' rfl (G.n' hisB ?_)
      rw[hstr]
      refine G.n' hfit ?_
      rw[hcat]
      refine G.n' rfl ?_
      rw[hone]
      rw[← hL] at rest ⊢
      exact za.weak (env':=qay s z y1 l2) (.cons rfl (.cons rfl (.cons rfl (.cons rfl (.cons rfl (.nil _)))))) rest
     |true=>
      have he:=hup rfl rfl
      cbv
      refine G.n' rfl ?_
      rw[he]
      refine G.n' rfl (G.n' hisB ?_)
      rw[hstr]
      refine G.n' hfit ?_
      rw[hcat]
      refine G.n' rfl ?_
      rw[hone]
      rw[← hL] at rest ⊢
      exact za.weak (env':=qay s z y1 l2) (.cons rfl (.cons rfl (.cons rfl (.cons rfl (.cons rfl (.nil _)))))) rest
  |true=>
   have rest:=rest (.inl rfl)
   rw[hn1]
   cbv
   refine G.n' rfl ?_
   rw[h65]
   cases d1 with
   |false=>
    have he:=hsame (.inl rfl)
    cbv
    rw[he]
    refine G.n' rfl (G.n' hisB ?_)
    rw[hstr]
    refine G.n' hfit ?_
    rw[hcat]
    refine G.n' rfl ?_
    rw[hone]
    rw[← hL] at rest ⊢
    exact za.weak (env':=qay s z y1 l2) (.cons rfl (.cons rfl (.cons rfl (.cons rfl (.cons rfl (.nil _)))))) rest
   |true=>
    cbv
    refine G.n' rfl ?_
    rw[h90]
    cases d2 with
    |false=>
     have he:=hsame (.inr rfl)
     cbv
     rw[he]
     refine G.n' rfl (G.n' hisB ?_)
     rw[hstr]
     refine G.n' hfit ?_
     rw[hcat]
     refine G.n' rfl ?_
     rw[hone]
     rw[← hL] at rest ⊢
     exact za.weak (env':=qay s z y1 l2) (.cons rfl (.cons rfl (.cons rfl (.cons rfl (.cons rfl (.nil _)))))) rest
    |true=>
     have he:=hup rfl rfl
     cbv
     refine G.n' rfl ?_
     rw[he]
     refine G.n' rfl (G.n' hisB ?_)
     rw[hstr]
     refine G.n' hfit ?_
     rw[hcat]
     refine G.n' rfl ?_
     rw[hone]
     rw[← hL] at rest ⊢
     exact za.weak (env':=qay s z y1 l2) (.cons rfl (.cons rfl (.cons rfl (.cons rfl (.cons rfl (.nil _)))))) rest
def qaj(w:List UInt8)(i:Nat):AV:=match decide (32<w.length) with
 |true=> .tup [.agg [.int .i64 0,.str [],.int .i64 0,.int .i64 0],.int .i64 0,.str zf]
 |false=> .tup [.agg [.int .i64 0,.str (w.map low),.int .i64 0,.int .i64 i],.int .i64 w.length,.str jf]
theorem vdb(s:List UInt8)(hs:s.length≤1000000)(i:Nat)(z:Int)(hz:z=i)(hi:i≤s.length)(S:St)(K:Out→St→Prop)(hK:K (.ret (qaj ((s.drop i).takeWhile xj) i)) S) :
 jb Tryz.prog (Pr.tab real) 28 [.str s,.int .i64 z] S K:=by
 refine jb.lift (K0:=fun o _=>o= .ret (qaj ((s.drop i).takeWhile xj) i)) rfl ?_ (by
  rintro o S0 rfl
  unfold qaj at hK ⊢
  generalize decide (32<((s.drop i).takeWhile xj).length)=d at *
  cases d<;>exact hK)
 apply ja (un:=0) Pr.tabOk Pr.mixed Pl.fn28 (nb rfl)
 apply qb (mk:=Pr.tab)
 intro _ _ _ _ _ _ _ _ _ cmp _ _ _ _ _ _ _ _ _ _ _ _ _ _ _ _ _ _ _ G
 obtain⟨w,hw⟩:∃ w,(s.drop i).takeWhile xj=w:=⟨_,rfl⟩
 have hwl:=(List.takeWhile_prefix xj (l:=s.drop i)).length_le
 rw[hw] at hwl
 simp at hwl
 have hloop:=fun K h=>ydb s hs i z hz ⟨[(0,[.int .i64 0,.str [],.int .i64 0,.int .i64 0])],1,[]⟩ K (s.length-i) 0 0 [] rfl (by omega) rfl h
 rw[Nat.add_zero,hw] at hloop
 rw[hw]
 have hgt:∀ y:Int,y=((0:Nat):Int)+w.length→cmp BinOp.gtr y 32=decide (32<w.length):=fun y hy=>by
  rw[G.cmp',hy];simp only[vb];rw[Bool.eq_iff_iff];simp only[decide_eq_true_eq];omega
 have h1:decide (32<w.length)=true→∀ S:St,(fun(o:Out) (_:St)=>o= .ret (qaj w i)) (.ret (.tup [.agg [.int .i64 0,.str [],.int .i64 0,.int .i64 0],.int .i64 0,.str zf])) S:=fun h S=>by
  show _=_
  unfold qaj;rw[h]
 have h2:decide (32<w.length)=false→∀ y:Int,y=((0:Nat):Int)+w.length→∀ S:St,(fun(o:Out) (_:St)=>o= .ret (qaj w i)) (.ret (.tup [.agg [.int .i64 0,.str (w.map low),.int .i64 0,.int .i64 z],.int .i64 y,.str jf])) S:=fun h y hy S=>by
  show _=_
  unfold qaj;rw[h,hz,hy];simp
 generalize (fun(o:Out) (_:St)=>o= .ret (qaj w i))=K0 at *
 generalize decide (32<w.length)=dw at *
 generalize hwm:([]:List UInt8)++w.map low=wm at *
 rw[List.nil_append] at hwm
 rw[hwm] at h2
 generalize (((0:Nat):Int)+(w.length:Int))=yw at *
 cbv
 refine G.l' ?_
 change za Tryz.prog (Pr.tab real) 55 c18 _ _ _
 refine za.relax (za.weak (env':=qay s z 0 []) (.cons rfl (.cons rfl (.cons rfl (.cons rfl (.cons rfl (.nil _)))))) ?_)
 refine hloop _ fun y hy=>?_
 have hg:=hgt y hy
 have h2:=fun h=>h2 h y hy
 cbv
 refine G.n' rfl ?_
 rw[hg]
 cases dw with
 |true=>have h1:=h1 rfl;cbv;exact h1 _
 |false=>have h2:=h2 rfl;cbv;exact h2 _
end Go.AM
namespace Go.AM
open Go.Proofs
theorem Pl.fn29:FnOk Tryz.prog 29 (fni Tryz.f29 Pr.a29):=⟨⟨Tryz.f29,Tryz.func29,rfl,rfl,rfl,by kernel_rfl⟩,by kernel_rfl⟩
noncomputable def c19:Code:=(fni Tryz.f29 Pr.a29).loop 0
theorem Pl.c19:qf 75 Pr.a29 c19=true:=by kernel_rfl
theorem qed(K:Ex→Env→St→Prop)(env:Env)(S:St)(h:xg (pAlg Tryz.prog (Pr.tab real) 75) (Pr.tab real) Pr.a29 0 c19 (andThen (za Tryz.prog (Pr.tab real) 75 c19 K) K) env S):za Tryz.prog (Pr.tab real) 75 c19 K env S:=
 vc Pr.tabOk Pr.mixed Pl.c19 h
def yav(s:List UInt8)(z y v:Int)(ov:Bool):Env:=[(0,.str s),(1,.int .i64 z),(4,.ptr 0 0),(7,.int .i64 y),(8,.int .u64 v),(9,.bool ov)]
theorem zcj(s:List UInt8)(hs:s.length≤1000000)(i:Nat)(z:Int)(hz:z=i)(S:St)(K:Ex→Env→St→Prop)(m:Nat) :
 ∀(n acc:Nat) (y v:Int),y=n→i+n+m=s.length→0≤v→v<18446744073709551616→(acc<9223372036854775808→v=acc) →
  (∀(y' v':Int),y'=n+((s.drop (i+n)).takeWhile jc).length→(xf acc ((s.drop (i+n)).takeWhile jc)<9223372036854775808→v'=xf acc ((s.drop (i+n)).takeWhile jc))→0≤v'→v'<18446744073709551616 →
    K (.exit 0) (yav s z y' v' (decide (9223372036854775808≤xf acc ((s.drop (i+n)).takeWhile jc)))) S) →
  za Tryz.prog (Pr.tab real) 75 c19 (Less K) (yav s z y v (decide (9223372036854775808≤acc))) S:=by
 induction m with
 |zero=>
  intro n acc y v hy hm hv0 hv1 hv hK
  have hfin:K (.exit 0) (yav s z y v (decide (9223372036854775808≤acc))) S:=by
   have h0:(s.drop (i+n)).takeWhile jc=[]:=by rw[List.drop_eq_nil_of_le (by omega)];rfl
   have:=hK y v (by rw[h0];simpa using hy) (by rw[h0];exact hv) hv0 hv1
   rw[h0] at this
   exact this
  apply qed
  apply xb (mk:=Pr.tab)
  intro fail need same call loop len slen arith shift cmp conv eqS ltS cat app elt byt subS subL strOf isB fit inb cut room not and eqB avs G
  generalize hL:za Tryz.prog (Pr.tab real) 75 c19 (Less K)=L
  generalize hK':Less K=K'
  generalize hov:decide (9223372036854775808≤acc)=ov at *
  have hadd:arith BinOp.add IntKind.i64 z y=z+y:=by rw[G.arith'];exact wrap_i64 _ (by omega) (by omega)
  have hb:cmp BinOp.lss (z+y) (slen s)=false:=by rw[G.cmp',G.slen'];simp[vb];omega
  cbv
  refine G.n' rfl (G.n' rfl ?_)
  rw[hadd,hb]
  cbv
  rw[← hK']
  exact⟨yav s z y v ov,.cons rfl (.cons rfl (.cons rfl (.cons rfl (.cons rfl (.cons rfl (.nil _)))))),hfin⟩
 |succ m ih=>
  intro n acc y v hy hm hv0 hv1 hv hK
  have hlt:i+n<s.length:=by omega
  have hdrop:s.drop (i+n)=s[i+n]::s.drop (i+n+1):=List.drop_eq_getElem_cons hlt
  obtain⟨c,hc⟩:∃ c,s[i+n]=c:=⟨_,rfl⟩
  rw[hc] at hdrop
  have hfin:jc c=false→K (.exit 0) (yav s z y v (decide (9223372036854775808≤acc))) S:=fun h2=>by
   have h3:(s.drop (i+n)).takeWhile jc=[]:=by rw[hdrop,List.takeWhile_cons,h2];simp
   have:=hK y v (by rw[h3];simpa using hy) (by rw[h3];exact hv) hv0 hv1
   rw[h3] at this
   exact this
  obtain⟨cz,hcz⟩:∃ cz:Int,cz=c.toNat:=⟨_,rfl⟩
  have hgo:jc c=true→∀ v2:Int,0≤v2→v2<18446744073709551616→(acc * 10+(c.toNat-48)<9223372036854775808→v2=((acc * 10+(c.toNat-48):Nat):Int)) →
   za Tryz.prog (Pr.tab real) 75 c19 (Less K) (yav s z (y+1) v2 (decide (9223372036854775808≤acc * 10+(c.toNat-48)))) S:=fun h1 v2 h20 h21 hv2=>by
   have h3:(s.drop (i+n)).takeWhile jc=c::(s.drop (i+(n+1))).takeWhile jc:=by rw[hdrop,List.takeWhile_cons,h1,← Nat.add_assoc];simp
   refine ih (n+1) (acc * 10+(c.toNat-48)) (y+1) v2 (by omega) (by omega) h20 h21 hv2 fun y' v' hy' hv' h30 h31=>?_
   have:=hK y' v' (by rw[h3,hy'];simp only[List.length_cons];omega) (by rw[h3];exact hv') h30 h31
   rw[h3] at this
   exact this
  clear ih hK
  obtain⟨v2,hv2⟩:∃ v2:Int,v2=10 * v+(cz-48):=⟨_,rfl⟩
  have hdig:jc c=true→48≤c.toNat∧c.toNat≤57:=za3 c
  have rest1:jc c=true→(decide (9223372036854775808≤acc)=true∨decide (922337203685477580<v)=true∨(decide (v=922337203685477580)=true∧decide (55<cz)=true)) →
   za Tryz.prog (Pr.tab real) 75 c19 (Less K) (yav s z (y+1) v true) S:=fun h1 h=>by
   have hd:=hdig h1
   have hbig:9223372036854775808≤acc * 10+(c.toNat-48):=by
    simp only[decide_eq_true_eq] at h
    by_cases hq:acc<9223372036854775808
    ·have:=hv hq
     rcases h with h|h|⟨h,h'⟩<;>omega
    ·omega
   have:=hgo h1 v hv0 hv1 (fun hq=>by omega)
   rw[decide_eq_true hbig] at this
   exact this
  have rest2:jc c=true→decide (9223372036854775808≤acc)=false→decide (922337203685477580<v)=false→(decide (v=922337203685477580)=false∨decide (55<cz)=false) →
   za Tryz.prog (Pr.tab real) 75 c19 (Less K) (yav s z (y+1) v2 false) S:=fun h1 h2 h3 h4=>by
   have hd:=hdig h1
   simp only[decide_eq_false_iff_not] at h2 h3 h4
   have hva:=hv (by omega)
   have hsm:acc * 10+(c.toNat-48)<9223372036854775808:=by rcases h4 with h4|h4<;>omega
   have:=hgo h1 v2 (by omega) (by omega) (fun _=>by omega)
   rw[decide_eq_false (by omega)] at this
   exact this
  have hsmall:jc c=true→decide (9223372036854775808≤acc)=false→decide (922337203685477580<v)=false→48≤cz∧cz≤57∧0≤v∧v≤922337203685477580:=fun h1 h2 h3=>by
   have hd:=hdig h1
   simp only[decide_eq_false_iff_not] at h2 h3
   omega
  clear hgo
  apply qed
  apply xb (mk:=Pr.tab)
  intro _ _ _ _ _ _ slen arith _ cmp conv _ _ _ _ _ byt _ _ _ _ _ inb _ _ not _ _ _ G
  have hadd:arith BinOp.add IntKind.i64 z y=z+y:=by rw[G.arith'];exact wrap_i64 _ (by omega) (by omega)
  have hone:arith BinOp.add IntKind.i64 y 1=y+1:=by rw[G.arith'];exact wrap_i64 _ (by omega) (by omega)
  have hb:cmp BinOp.lss (z+y) (slen s)=true:=by rw[G.cmp',G.slen'];simp[vb];omega
  have hin:inb (z+y) (slen s)=true:=by rw[G.inb',G.slen'];simp;omega
  have hbyt:byt s (z+y)=cz:=by
   rw[G.byt',hz,hy,hcz,← hc];simp only[];rw[show ((i:Int)+(n:Int)).toNat=i+n by omega];simp[List.getD_eq_getElem?_getD,hlt]
  have hD:∀ S K,K (.ret (.bool (jc c))) S→jb Tryz.prog (Pr.tab real) 27 [.int .u8 cz] S K:=fun S K h=>by rw[hcz];exact vdw c S K h
  have hgt:cmp BinOp.gtr v 922337203685477580=decide (922337203685477580<v):=by rw[G.cmp'];rfl
  have heq:cmp BinOp.eql v 922337203685477580=decide (v=922337203685477580):=by rw[G.cmp'];simp only[vb];rw[Bool.eq_iff_iff];simp
  have h55:cmp BinOp.gtr cz 55=decide (55<cz):=by rw[G.cmp'];rfl
  have hval:jc c=true→decide (9223372036854775808≤acc)=false→decide (922337203685477580<v)=false →
   arith BinOp.add IntKind.u64 (arith BinOp.mul IntKind.u64 10 v) (conv IntKind.u64 (arith BinOp.sub IntKind.u8 cz 48))=v2:=fun h1 h2 h3=>by
   obtain⟨g1,g2,g3,g4⟩:=hsmall h1 h2 h3
   rw[G.arith',G.conv']
   simp only[zaw,IntKind.wrap_u64,IntKind.wrap_u8]
   omega
  have hn1:not true=false:=by rw[G.not'];rfl
  have hn0:not false=true:=by rw[G.not'];rfl
  generalize hL:za Tryz.prog (Pr.tab real) 75 c19 (Less K)=L at rest1 rest2 ⊢
  generalize hK':Less K=K' at hL ⊢
  generalize hq2:jc c=q2 at *
  generalize hov:decide (9223372036854775808≤acc)=ov at *
  generalize hb1:decide (922337203685477580<v)=b1 at *
  generalize hb2:decide (v=922337203685477580)=b2 at *
  generalize hb3:decide (55<cz)=b3 at *
  generalize hy1:y+1=y1 at *
  generalize hzy:z+y=zy at *
  clear hv2 hcz hq2 hov hb1 hb2 hb3 hsmall hdig hv hv0 hv1
  cbv
  refine G.n' rfl (G.n' rfl ?_)
  rw[hadd,hb]
  cbv
  refine G.n' rfl ?_
  rw[hadd]
  refine G.n' hin ?_
  rw[hbyt]
  refine G.c' (hD _ _ ?_)
  cbv
  cases q2 with
  |false=>
   rw[hn0]
   cbv
   rw[← hK']
   exact⟨yav s z y v ov,.cons rfl (.cons rfl (.cons rfl (.cons rfl (.cons rfl (.cons rfl (.nil _)))))),hfin rfl⟩
  |true=>
   have rest1:=rest1 rfl
   have rest2:=rest2 rfl
   have hval:=hval rfl
   rw[hn1]
   cbv
   refine G.n' rfl ?_
   rw[hgt]
   cases b1 with
   |true=>
    have go:=rest1 (.inr (.inl rfl))
    cbv
    rw[hn1]
    cbv
    refine G.n' rfl ?_
    rw[hone]
    rw[← hL] at go ⊢
    exact za.weak (env':=yav s z y1 v true) (.cons rfl (.cons rfl (.cons rfl (.cons rfl (.cons rfl (.cons rfl (.nil _))))))) go
   |false=>
    cbv
    refine G.n' rfl ?_
    rw[heq]
    cases b2 with
    |false=>
     cbv
     cases ov with
     |true=>
      have go:=rest1 (.inl rfl)
      cbv
      rw[hn1]
      cbv
      refine G.n' rfl ?_
      rw[hone]
      rw[← hL] at go ⊢
      exact za.weak (env':=yav s z y1 v true) (.cons rfl (.cons rfl (.cons rfl (.cons rfl (.cons rfl (.cons rfl (.nil _))))))) go
     |false=>
      have go:=rest2 rfl rfl (.inl rfl)
      have hval:=hval rfl rfl
      cbv
      rw[hn0]
      cbv
      refine G.n' rfl (G.n' rfl ?_)
      rw[hadd]
      refine G.n' hin (G.n' rfl (G.n' rfl ?_))
      rw[hbyt,hval]
      refine G.n' rfl ?_
      rw[hone]
      rw[← hL] at go ⊢
      exact za.weak (env':=yav s z y1 v2 false) (.cons rfl (.cons rfl (.cons rfl (.cons rfl (.cons rfl (.cons rfl (.nil _))))))) go
    |true=>
     cbv
     refine G.n' rfl ?_
     rw[hadd]
     refine G.n' hin (G.n' rfl ?_)
     rw[hbyt,h55]
     cases b3 with
     |true=>
      have go:=rest1 (.inr (.inr ⟨rfl,rfl⟩))
      cbv
      rw[hn1]
      cbv
      refine G.n' rfl ?_
      rw[hone]
      rw[← hL] at go ⊢
      exact za.weak (env':=yav s z y1 v true) (.cons rfl (.cons rfl (.cons rfl (.cons rfl (.cons rfl (.cons rfl (.nil _))))))) go
     |false=>
      cbv
      cases ov with
      |true=>
       have go:=rest1 (.inl rfl)
       cbv
       rw[hn1]
       cbv
       refine G.n' rfl ?_
       rw[hone]
       rw[← hL] at go ⊢
       exact za.weak (env':=yav s z y1 v true) (.cons rfl (.cons rfl (.cons rfl (.cons rfl (.cons rfl (.cons rfl (.nil _))))))) go
      |false=>
       have go:=rest2 rfl rfl (.inr rfl)
       have hval:=hval rfl rfl
       cbv
       rw[hn0]
       cbv
       refine G.n' rfl (G.n' rfl ?_)
       rw[hadd]
       refine G.n' hin (G.n' rfl (G.n' rfl ?_))
       rw[hbyt,hval]
       refine G.n' rfl ?_
       rw[hone]
       rw[← hL] at go ⊢
       exact za.weak (env':=yav s z y1 v2 false) (.cons rfl (.cons rfl (.cons rfl (.cons rfl (.cons rfl (.cons rfl (.nil _))))))) go
end Go.AM
namespace Go.AM
open Go.Proofs
def vbu:AV:= .agg [.int .i64 0,.str [],.int .i64 0,.int .i64 0]
def jap(s d:List UInt8)(i j:Nat):AV:=match decide (9223372036854775808≤xf 0 d) with
 |true=> .tup [vbu,.int .i64 0,.str ja8]
 |false=>match decide (j<s.length) && ve (s.getD j 0) with
  |true=> .tup [vbu,.int .i64 0,.str zf]
  |false=> .tup [.agg [.int .i64 1,.str [],.int .i64 (xf 0 d),.int .i64 i],.int .i64 d.length,.str jf]
theorem qcj(s:List UInt8)(hs:s.length≤1000000)(i:Nat)(z:Int)(hz:z=i)(hi:i≤s.length)(S:St)(K:Out→St→Prop)(hK:K (.ret (jap s ((s.drop i).takeWhile jc) i (scan jc s i))) S) :
 jb Tryz.prog (Pr.tab real) 29 [.str s,.int .i64 z] S K:=by
 refine jb.lift (K0:=fun o _=>o= .ret (jap s ((s.drop i).takeWhile jc) i (scan jc s i))) rfl ?_ (by
  rintro o S0 rfl
  unfold jap at hK ⊢
  generalize decide (9223372036854775808≤xf 0 ((s.drop i).takeWhile jc))=d at *
  generalize (decide (scan jc s i<s.length) && ve (s.getD (scan jc s i) 0))=e at *
  cases d<;>cases e<;>exact hK)
 apply ja (un:=0) Pr.tabOk Pr.mixed Pl.fn29 (nb rfl)
 apply qb (mk:=Pr.tab)
 intro _ _ _ _ _ _ slen arith _ cmp conv _ _ _ _ _ byt _ _ _ _ _ inb _ _ _ _ _ _ G
 obtain⟨j,hj⟩:∃ j,scan jc s i=j:=⟨_,rfl⟩
 have hjb:=xr jc s i hi
 obtain⟨d,hd⟩:∃ d,(s.drop i).takeWhile jc=d:=⟨_,rfl⟩
 have hjd:j=i+d.length:=by rw[← hj,← hd];rfl
 rw[hj] at hjb ⊢
 have hloop:=fun K h=>zcj s hs i z hz ⟨[(0,[.int .i64 0,.str [],.int .i64 0,.int .i64 0])],1,[]⟩ K (s.length-i) 0 0 0 0 rfl (by omega) (by omega) (by omega) (fun _=>rfl) h
 rw[Nat.add_zero,hd] at hloop
 rw[hd]
 have hml:∀ y:Int,y=((0:Nat):Int)+d.length→arith BinOp.add IntKind.i64 z y=z+y∧cmp BinOp.lss (z+y) (slen s)=decide (j<s.length)∧(decide (j<s.length)=true→inb (z+y) (slen s)=true):=fun y hy=>by
  refine⟨?_,?_,fun h=>?_⟩
  ·rw[G.arith'];exact wrap_i64 _ (by omega) (by omega)
  ·rw[G.cmp',G.slen'];simp only[vb];rw[Bool.eq_iff_iff];simp only[decide_eq_true_eq];omega
  ·have:=of_decide_eq_true h
   rw[G.inb',G.slen'];simp;omega
 have hL:∀ y:Int,y=((0:Nat):Int)+d.length→∀ S K,K (.ret (.bool (ve (s.getD j 0)))) S→jb Tryz.prog (Pr.tab real) 26 [.int .u8 (byt s (z+y))] S K:=fun y hy S K h=>by
  have:byt s (z+y)=((s.getD j 0).toNat:Int):=by rw[G.byt'];simp only[];rw[show (z+y).toNat=j by omega]
  rw[this];exact ydw _ S K h
 have hconv:∀ v:Int,(xf 0 d<9223372036854775808→v=xf 0 d)→xf 0 d<9223372036854775808→conv IntKind.i64 v=xf 0 d:=fun v h h'=>by
  rw[G.conv',h h']
  exact wrap_i64 _ (by omega) (by omega)
 obtain⟨nv,hnv⟩:∃ nv:Int,nv=(xf 0 d:Nat):=⟨_,rfl⟩
 have hconv:=fun v h h'=>(hconv v h h').trans hnv.symm
 have h1:decide (9223372036854775808≤xf 0 d)=true→∀ S:St,(fun(o:Out) (_:St)=>o= .ret (jap s d i j)) (.ret (.tup [.agg [.int .i64 0,.str [],.int .i64 0,.int .i64 0],.int .i64 0,.str ja8])) S:=fun h S=>by
  show _=_
  unfold jap;rw[h];rfl
 have h2:decide (9223372036854775808≤xf 0 d)=false→(decide (j<s.length) && ve (s.getD j 0))=true→∀ S:St,(fun(o:Out) (_:St)=>o= .ret (jap s d i j)) (.ret (.tup [.agg [.int .i64 0,.str [],.int .i64 0,.int .i64 0],.int .i64 0,.str zf])) S:=fun h h' S=>by
  show _=_
  unfold jap;rw[h,h'];rfl
 have h3:decide (9223372036854775808≤xf 0 d)=false→(decide (j<s.length) && ve (s.getD j 0))=false→∀ y:Int,y=((0:Nat):Int)+d.length→∀ S:St,(fun(o:Out) (_:St)=>o= .ret (jap s d i j)) (.ret (.tup [.agg [.int .i64 1,.str [],.int .i64 nv,.int .i64 z],.int .i64 y,.str jf])) S:=fun h h' y hy S=>by
  show _=_
  unfold jap;rw[h,h',hz,hy,hnv];simp
 have hsm:decide (9223372036854775808≤xf 0 d)=false→xf 0 d<9223372036854775808:=fun h=>by have:=of_decide_eq_false h;omega
 generalize (fun(o:Out) (_:St)=>o= .ret (jap s d i j))=K0 at *
 generalize hov:decide (9223372036854775808≤xf 0 d)=ov at *
 generalize hdj:decide (j<s.length)=dj at *
 generalize hlj:ve (s.getD j 0)=lj at *
 clear hnv hov hdj hlj
 generalize (((0:Nat):Int)+(d.length:Int))=yw at *
 cbv
 refine G.l' ?_
 change za Tryz.prog (Pr.tab real) 75 c19 _ _ _
 refine za.relax (za.weak (env':=yav s z 0 0 false) (.cons rfl (.cons rfl (.cons rfl (.cons rfl (.cons rfl (.cons rfl (.nil _))))))) ?_)
 refine hloop _ fun y v hy hv hv0 hv1=>?_
 obtain⟨g1,g2,g3⟩:=hml y hy
 have hL:=hL y hy
 have h3:=fun a b=>h3 a b y hy
 have hc:=fun h=>hconv v hv (hsm h)
 generalize z+y=zy at *
 cases ov with
 |true=>have h1:=h1 rfl;cbv;exact h1 _
 |false=>
  have h2:=h2 rfl
  have h3:=h3 rfl
  have hc:=hc rfl
  cbv
  refine G.n' rfl (G.n' rfl ?_)
  rw[g1,g2]
  cases dj with
  |false=>
   have h3:=h3 rfl
   cbv
   rw[hc]
   exact h3 _
  |true=>
   have g3:=g3 rfl
   cbv
   refine G.n' rfl ?_
   rw[g1]
   refine G.n' g3 (G.c' (hL _ _ ?_))
   cases lj with
   |true=>have h2:=h2 rfl;cbv;exact h2 _
   |false=>
    have h3:=h3 rfl
    cbv
    rw[hc]
    exact h3 _
end Go.AM
namespace Go.AM
open Go.Proofs
theorem Pl.fn30:FnOk Tryz.prog 30 (fni Tryz.f30 Pr.a30):=⟨⟨Tryz.f30,Tryz.func30,rfl,rfl,rfl,by kernel_rfl⟩,by kernel_rfl⟩
noncomputable def c20:Code:=(fni Tryz.f30 Pr.a30).loop 0
theorem Pl.c20:qf 74 Pr.a30 c20=true:=by kernel_rfl
theorem yeq(K:Ex→Env→St→Prop)(env:Env)(S:St)(h:xg (pAlg Tryz.prog (Pr.tab real) 74) (Pr.tab real) Pr.a30 0 c20 (andThen (za Tryz.prog (Pr.tab real) 74 c20 K) K) env S):za Tryz.prog (Pr.tab real) 74 c20 K env S:=
 vc Pr.tabOk Pr.mixed Pl.c20 h
def ju(s:List UInt8):Nat→Nat→List UInt8→Bool→Option (List UInt8 × Bool × Nat)
 | 0,_,_,_=>none
 |n+1,k,b,ok=>match decide (k<s.length) with
  |false=>none
  |true=>match s.getD k 0 == 39 with
   |true=>match decide (k+1<s.length) && s.getD (k+1) 0 == 39 with
    |true=>ju s n (k+2) (b++[39]) ok
    |false=>some (b,ok,k)
   |false=>ju s n (k+1) (b++[s.getD k 0]) (ok && ja6 (s.getD k 0))
def bV:List UInt8→AV
 | []=> .slice 0 [] .exact
 |x::r=> .slice 5 (avl (x::r)) (.own 0)
def qcc:List UInt8→List Int
 | []=>[]
 |x::r=>[((x::r).length:Int)]
theorem vef(b:List UInt8)(c:UInt8):bV (b++[c])= .slice 5 (avl (b++[c])) (.own 0)∧qcc (b++[c])=[((b++[c]).length:Int)]:=by
 cases b<;>exact⟨rfl,rfl⟩
def ST(row:List AV)(caps:List Int):St:=⟨[(0,row)],1,caps⟩
def row0:List AV:=[.int .i64 0,.str [],.int .i64 0,.int .i64 0]
def zdt(s:List UInt8)(z k:Int)(b:List UInt8)(ok:Bool):Env:=[(0,.str s),(1,.int .i64 z),(4,.ptr 0 0),(7,bV b),(8,.bool ok),(9,.int .i64 k)]
def yn(i:Nat)(b:List UInt8)(ok:Bool)(k:Nat):List AV × Int × List UInt8:=match ok with
 |false=>(row0,0,zf)
 |true=>match decide (400<b.length) with
  |true=>(row0,0,jah)
  |false=>([.int .i64 2,.str b,.int .i64 0,.int .i64 i],(k:Int)+1-i,jf)
theorem qb6(s:List UInt8)(hs:s.length≤1000000)(i:Nat)(z:Int)(hz:z=i)(K:Ex→Env→St→Prop)(n:Nat) :
 ∀(k:Nat) (y:Int) (b:List UInt8) (ok:Bool),y=k→i≤k→b.length≤1 * k→k≤s.length+1→s.length+1-k<n →
  (ju s n k b ok=none→∀ caps,K (.exit 0) [(4,.ptr 0 0)] (ST row0 caps)) →
  (∀ b' ok' k',ju s n k b ok=some (b',ok',k')→∀ caps,K .ret [(4,.ptr 0 0),(5,.int .i64 (yn i b' ok' k').2.1),(6,.str (yn i b' ok' k').2.2)] (ST (yn i b' ok' k').1 caps)) →
  za Tryz.prog (Pr.tab real) 74 c20 (Less K) (zdt s z y b ok) (ST row0 (qcc b)):=by
 induction n with
 |zero=>intro k y b ok hy hik hb hk hn;omega
 |succ n ih=>
  intro k y b ok hy hik hb hk hn hK1 hK2
  unfold ju at hK1 hK2
  obtain⟨c,hc⟩:∃ c,s.getD k 0=c:=⟨_,rfl⟩
  obtain⟨c2,hc2⟩:∃ c2,s.getD (k+1) 0=c2:=⟨_,rfl⟩
  rw[hc,hc2] at hK1 hK2
  obtain⟨cz,hcz⟩:∃ cz:Int,cz=c.toNat:=⟨_,rfl⟩
  have hend:decide (k<s.length)=false→K (.exit 0) [(4,.ptr 0 0)] (ST row0 (qcc b)):=fun h=>hK1 (by rw[h]) _
  have hdone:decide (k<s.length)=true→(c == 39)=true→(decide (k+1<s.length) && c2 == 39)=false→∀ caps,K .ret [(4,.ptr 0 0),(5,.int .i64 (yn i b ok k).2.1),(6,.str (yn i b ok k).2.2)] (ST (yn i b ok k).1 caps):=
   fun h1 h2 h3=>hK2 b ok k (by rw[h1,h2,h3])
  have hesc:decide (k<s.length)=true→(c == 39)=true→(decide (k+1<s.length) && c2 == 39)=true→za Tryz.prog (Pr.tab real) 74 c20 (Less K) (zdt s z (y+2) (b++[39]) ok) (ST row0 (qcc (b++[39]))):=
   fun h1 h2 h3=>by
    have h1':=of_decide_eq_true h1
    have h3':k+1<s.length:=by simp only[Bool.and_eq_true,decide_eq_true_eq] at h3;exact h3.1
    exact ih (k+2) (y+2) _ ok (by omega) (by omega) (by simp;omega) (by omega) (by omega) (fun h=>hK1 (by rw[h1,h2,h3];exact h)) (fun b' ok' k' h=>hK2 b' ok' k' (by rw[h1,h2,h3];exact h))
  have hgo:decide (k<s.length)=true→(c == 39)=false→za Tryz.prog (Pr.tab real) 74 c20 (Less K) (zdt s z (y+1) (b++[c]) (ok && ja6 c)) (ST row0 (qcc (b++[c]))):=
   fun h1 h2=>by
    have h1':=of_decide_eq_true h1
    exact ih (k+1) (y+1) _ _ (by omega) (by omega) (by simp;omega) (by omega) (by omega) (fun h=>hK1 (by rw[h1,h2];exact h)) (fun b' ok' k' h=>hK2 b' ok' k' (by rw[h1,h2];exact h))
  clear ih hK1 hK2
  have hg:ja6 c= !(decide (c.toNat<32) || decide (126<c.toNat)):=rfl
  rw[hg] at hgo
  have hbl:b.length≤1000001:=by omega
  obtain⟨e39,he39⟩:=vef b 39
  obtain⟨ec,hec⟩:=vef b c
  simp only[zdt] at hgo hesc ⊢
  rw[e39,he39] at hesc
  rw[ec,hec] at hgo
  have hcase:(bV b= .slice 0 [] .exact∧qcc b=[]∧avl b=[]∧b=[])∨(bV b= .slice 5 (avl b) (.own 0)∧qcc b=[(b.length:Int)]):=by
   cases b with
   |nil=>exact .inl ⟨rfl,rfl,rfl,rfl⟩
   |cons=>exact .inr ⟨rfl,rfl⟩
  apply yeq
  apply xb (mk:=Pr.tab)
  intro _ _ _ _ _ len slen arith _ cmp _ _ _ _ app _ byt _ _ strOf isB _ inb _ room not _ _ _ G
  have hlss:cmp BinOp.lss y (slen s)=decide (k<s.length):=by rw[G.cmp',G.slen'];simp only[vb];rw[Bool.eq_iff_iff];simp only[decide_eq_true_eq];omega
  have hin:decide (k<s.length)=true→inb y (slen s)=true:=fun h=>by have:=of_decide_eq_true h;rw[G.inb',G.slen'];simp;omega
  have hbyt:byt s y=cz:=by rw[G.byt',hy,hcz,← hc];rfl
  have h39:cmp BinOp.eql cz 39=(c == 39):=by rw[G.cmp',hcz];exact eqb c 39
  have hone:arith BinOp.add IntKind.i64 y 1=y+1:=by rw[G.arith'];exact wrap_i64 _ (by omega) (by omega)
  have hone2:arith BinOp.add IntKind.i64 (y+1) 1=y+2:=by rw[G.arith',show y+2=y+1+1 by omega];exact wrap_i64 _ (by omega) (by omega)
  have hsub:arith BinOp.sub IntKind.i64 (y+1) z=y+1-z:=by rw[G.arith'];exact wrap_i64 _ (by omega) (by omega)
  have hlss2:cmp BinOp.lss (y+1) (slen s)=decide (k+1<s.length):=by rw[G.cmp',G.slen'];simp only[vb];rw[Bool.eq_iff_iff];simp only[decide_eq_true_eq];omega
  have hin2:decide (k+1<s.length)=true→inb (y+1) (slen s)=true:=fun h=>by have:=of_decide_eq_true h;rw[G.inb',G.slen'];simp;omega
  have hq2:cmp BinOp.eql (byt s (y+1)) 39=(c2 == 39):=by
   have:byt s (y+1)=(c2.toNat:Int):=by rw[G.byt',← hc2];simp only[];rw[show (y+1).toNat=k+1 by omega]
   rw[G.cmp',this];exact eqb c2 39
  have h32:cmp BinOp.geq cz 32= !decide (c.toNat<32):=by rw[G.cmp',hcz];simp only[vb];rw[Bool.eq_iff_iff];simp;omega
  have h126:cmp BinOp.leq cz 126= !decide (126<c.toNat):=by rw[G.cmp',hcz];simp only[vb];rw[Bool.eq_iff_iff];simp;omega
  have h400:cmp BinOp.gtr (len (avl b)) 400=decide (400<b.length):=by rw[G.cmp',G.len'];simp only[vb,avl,List.length_map];rw[Bool.eq_iff_iff];simp only[decide_eq_true_eq];omega
  have a39:app (avl b) [.int .u8 39]=avl (b++[39]):=by rw[G.app'];simp[avl]
  have ac:app (avl b) [.int .u8 cz]=avl (b++[c]):=by rw[G.app',hcz];simp[avl]
  have r39:room (len (avl (b++[39]))) 1=true:=by rw[G.room',G.len'];simp[avl];omega
  have rc:room (len (avl (b++[c]))) 1=true:=by rw[G.room',G.len'];simp[avl];omega
  have l39:len (avl (b++[39]))=((b++[39]).length:Int):=by rw[G.len'];simp[avl]
  have lc:len (avl (b++[c]))=((b++[c]).length:Int):=by rw[G.len'];simp[avl]
  have hown:cmp BinOp.eql (b.length:Int) (len (avl b))=true:=by rw[G.cmp',G.len'];simp[vb,avl]
  have hisB:isB (avl b)=true:=by rw[G.isB'];simp[avl,za2]
  have hstr:strOf (avl b)=b:=by rw[G.strOf'];simp[avl,qbl,Function.comp_def]
  have hn1:not true=false:=by rw[G.not'];rfl
  have hn0:not false=true:=by rw[G.not'];rfl
  generalize hL:za Tryz.prog (Pr.tab real) 74 c20 (Less K)=L at hgo hesc ⊢
  generalize hK':Less K=K' at hL ⊢
  have hdoneF:ok=false→decide (k<s.length)=true→(c == 39)=true→(decide (k+1<s.length) && c2 == 39)=false→∀ caps,K .ret [(4,.ptr 0 0),(5,.int .i64 0),(6,.str zf)] (ST row0 caps):=fun h0 h1 h2 h3 caps=>by
   have:=hdone h1 h2 h3 caps
   rw[h0] at this
   exact this
  have hdoneL:ok=true→decide (400<b.length)=true→decide (k<s.length)=true→(c == 39)=true→(decide (k+1<s.length) && c2 == 39)=false→∀ caps,K .ret [(4,.ptr 0 0),(5,.int .i64 0),(6,.str jah)] (ST row0 caps):=fun h0 hl h1 h2 h3 caps=>by
   have:=hdone h1 h2 h3 caps
   unfold yn at this
   rw[h0,hl] at this
   exact this
  have hdoneT:ok=true→decide (400<b.length)=false→decide (k<s.length)=true→(c == 39)=true→(decide (k+1<s.length) && c2 == 39)=false→∀ caps,K .ret [(4,.ptr 0 0),(5,.int .i64 (y+1-z)),(6,.str jf)] (ST [.int .i64 2,.str b,.int .i64 0,.int .i64 z] caps):=fun h0 hl h1 h2 h3 caps=>by
   have:=hdone h1 h2 h3 caps
   unfold yn at this
   rw[h0,hl] at this
   rw[hz,hy]
   exact this
  clear hdone
  obtain⟨bv,hbv⟩:∃ bv,bV b=bv:=⟨_,rfl⟩
  obtain⟨bc,hbc⟩:∃ bc,qcc b=bc:=⟨_,rfl⟩
  rw[hbv,hbc] at hcase
  rw[hbc] at hend ⊢
  rw[hbv]
  generalize ((b++[39]).length:Int)=n39 at *
  generalize ((b++[c]).length:Int)=nc at *
  generalize avl (b++[39])=b39 at *
  generalize avl (b++[c])=bcc at *
  generalize hbn:(b.length:Int)=bn at *
  generalize habl:avl b=ab at *
  generalize hd1:decide (k<s.length)=d1 at *
  generalize hd2:decide (k+1<s.length)=d2 at *
  generalize hd4:decide (400<b.length)=d4 at *
  generalize hg1:decide (c.toNat<32)=g1 at *
  generalize hg2:decide (126<c.toNat)=g2 at *
  generalize hq1:(c == 39)=q1 at *
  generalize hqq:(c2 == 39)=q2 at *
  generalize hy1:y+1=y1 at *
  generalize hy2:y+2=y2 at *
  generalize hyz:y1-z=yz at *
  clear hc hc2 hcz hg hbl hbn habl hd1 hd2 hd4 hg1 hg2 hq1 hqq hyz e39 he39 ec hec hbv hbc
  cbv
  refine G.n' rfl ?_
  rw[hlss]
  cases d1 with
  |false=>
   have hend:=hend rfl
   cbv
   rw[← hK']
   exact⟨[(4,.ptr 0 0)],.cons rfl (.nil _),hend⟩
  |true=>
   have hin:=hin rfl
   have hgo:=hgo rfl
   have hesc:=hesc rfl
   have hdoneF:=fun h=>hdoneF h rfl
   have hdoneL:=fun h h'=>hdoneL h h' rfl
   have hdoneT:=fun h h'=>hdoneT h h' rfl
   cbv
   refine G.n' hin (G.n' rfl ?_)
   rw[hbyt,h39]
   cases q1 with
   |true=>
    have hesc:=hesc rfl
    have hdoneF:=fun h=>hdoneF h rfl
    have hdoneL:=fun h h'=>hdoneL h h' rfl
    have hdoneT:=fun h h'=>hdoneT h h' rfl
    cbv
    refine G.n' rfl (G.n' rfl ?_)
    rw[hone,hlss2]
    cases d2 with
    |false=>
     cbv
     cases ok with
     |false=>
      have hf:=hdoneF rfl rfl
      cbv
      rw[hn0]
      cbv
      rw[← hK']
      exact⟨[(4,.ptr 0 0),(5,.int .i64 0),(6,.str [52,50,54,48,49])],.cons rfl (.cons rfl (.cons rfl (.nil _))),hf _⟩
     |true=>
      have hl:=hdoneL rfl
      have ht:=hdoneT rfl
      cbv
      rw[hn1]
      rcases hcase with ⟨rfl,rfl,rfl,rfl⟩|⟨rfl,rfl⟩
      ·cbv
       refine G.n' rfl ?_
       rw[h400]
       cases d4 with
       |true=>
        have hl:=hl rfl rfl
        cbv
        rw[← hK']
        exact⟨[(4,.ptr 0 0),(5,.int .i64 0),(6,.str [50,50,48,48,49])],.cons rfl (.cons rfl (.cons rfl (.nil _))),hl _⟩
       |false=>
        have ht:=ht rfl rfl
        cbv
        refine G.n' rfl (G.n' rfl ?_)
        rw[hone,hsub]
        rw[← hK']
        exact⟨[(4,.ptr 0 0),(5,.int .i64 yz),(6,.str [48,48,48,48,48])],.cons rfl (.cons rfl (.cons rfl (.nil _))),ht _⟩
      ·cbv
       refine G.n' rfl ?_
       rw[h400]
       cases d4 with
       |true=>
        have hl:=hl rfl rfl
        cbv
        rw[← hK']
        exact⟨[(4,.ptr 0 0),(5,.int .i64 0),(6,.str [50,50,48,48,49])],.cons rfl (.cons rfl (.cons rfl (.nil _))),hl _⟩
       |false=>
        have ht:=ht rfl rfl
        cbv
        refine G.n' hisB ?_
        rw[hstr]
        refine G.n' rfl (G.n' rfl ?_)
        rw[hone,hsub]
        rw[← hK']
        exact⟨[(4,.ptr 0 0),(5,.int .i64 yz),(6,.str [48,48,48,48,48])],.cons rfl (.cons rfl (.cons rfl (.nil _))),ht _⟩
    |true=>
     have hin2:=hin2 rfl
     cbv
     refine G.n' rfl ?_
     rw[hone]
     refine G.n' hin2 (G.n' rfl ?_)
     rw[hq2]
     cases q2 with
     |false=>
      cbv
      cases ok with
      |false=>
       have hf:=hdoneF rfl rfl
       cbv
       rw[hn0]
       cbv
       rw[← hK']
       exact⟨[(4,.ptr 0 0),(5,.int .i64 0),(6,.str [52,50,54,48,49])],.cons rfl (.cons rfl (.cons rfl (.nil _))),hf _⟩
      |true=>
       have hl:=hdoneL rfl
       have ht:=hdoneT rfl
       cbv
       rw[hn1]
       rcases hcase with ⟨rfl,rfl,rfl,rfl⟩|⟨rfl,rfl⟩
       ·cbv
        refine G.n' rfl ?_
        rw[h400]
        cases d4 with
        |true=>
         have hl:=hl rfl rfl
         cbv
         rw[← hK']
         exact⟨[(4,.ptr 0 0),(5,.int .i64 0),(6,.str [50,50,48,48,49])],.cons rfl (.cons rfl (.cons rfl (.nil _))),hl _⟩
        |false=>
         have ht:=ht rfl rfl
         cbv
         refine G.n' rfl (G.n' rfl ?_)
         rw[hone,hsub]
         rw[← hK']
         exact⟨[(4,.ptr 0 0),(5,.int .i64 yz),(6,.str [48,48,48,48,48])],.cons rfl (.cons rfl (.cons rfl (.nil _))),ht _⟩
       ·cbv
        refine G.n' rfl ?_
        rw[h400]
        cases d4 with
        |true=>
         have hl:=hl rfl rfl
         cbv
         rw[← hK']
         exact⟨[(4,.ptr 0 0),(5,.int .i64 0),(6,.str [50,50,48,48,49])],.cons rfl (.cons rfl (.cons rfl (.nil _))),hl _⟩
        |false=>
         have ht:=ht rfl rfl
         cbv
         refine G.n' hisB ?_
         rw[hstr]
         refine G.n' rfl (G.n' rfl ?_)
         rw[hone,hsub]
         rw[← hK']
         exact⟨[(4,.ptr 0 0),(5,.int .i64 yz),(6,.str [48,48,48,48,48])],.cons rfl (.cons rfl (.cons rfl (.nil _))),ht _⟩
     |true=>
      have go:=hesc rfl
      rcases hcase with ⟨rfl,rfl,rfl,rfl⟩|⟨rfl,rfl⟩
      ·cbv
       rw[a39]
       refine G.n' rfl (G.n' r39 ?_)
       rw[l39]
       refine G.n' rfl (G.n' rfl ?_)
       rw[hone,hone2]
       rw[← hL] at go ⊢
       exact za.weak (env':=[(0,.str s),(1,.int .i64 z),(4,.ptr 0 0),(7,.slice 5 b39 (.own 0)),(8,.bool ok),(9,.int .i64 y2)]) (.cons rfl (.cons rfl (.cons rfl (.cons rfl (.cons rfl (.cons rfl (.nil _))))))) go
      ·cbv
       rw[a39]
       refine G.n' rfl (G.n' r39 (G.n' hown ?_))
       rw[l39]
       refine G.n' rfl (G.n' rfl ?_)
       rw[hone,hone2]
       rw[← hL] at go ⊢
       exact za.weak (env':=[(0,.str s),(1,.int .i64 z),(4,.ptr 0 0),(7,.slice 5 b39 (.own 0)),(8,.bool ok),(9,.int .i64 y2)]) (.cons rfl (.cons rfl (.cons rfl (.cons rfl (.cons rfl (.cons rfl (.nil _))))))) go
   |false=>
    have go:=hgo rfl
    cases ok with
    |false=>
     rcases hcase with ⟨rfl,rfl,rfl,rfl⟩|⟨rfl,rfl⟩
     ·cbv
      refine G.n' hin (G.n' rfl ?_)
      try rw[hbyt]
      cbv
      rw[ac]
      refine G.n' rc ?_
      rw[lc]
      refine G.n' rfl ?_
      rw[hone]
      rw[← hL] at go ⊢
      exact za.weak (env':=[(0,.str s),(1,.int .i64 z),(4,.ptr 0 0),(7,.slice 5 bcc (.own 0)),(8,.bool false),(9,.int .i64 y1)]) (.cons rfl (.cons rfl (.cons rfl (.cons rfl (.cons rfl (.cons rfl (.nil _))))))) go
     ·cbv
      refine G.n' hin (G.n' rfl ?_)
      try rw[hbyt]
      cbv
      rw[ac]
      refine G.n' rc (G.n' hown ?_)
      rw[lc]
      refine G.n' rfl ?_
      rw[hone]
      rw[← hL] at go ⊢
      exact za.weak (env':=[(0,.str s),(1,.int .i64 z),(4,.ptr 0 0),(7,.slice 5 bcc (.own 0)),(8,.bool false),(9,.int .i64 y1)]) (.cons rfl (.cons rfl (.cons rfl (.cons rfl (.cons rfl (.cons rfl (.nil _))))))) go
    |true=>
     cbv
     refine G.n' hin (G.n' rfl ?_)
     rw[hbyt,h32]
     cases g1 with
     |true=>
      rcases hcase with ⟨rfl,rfl,rfl,rfl⟩|⟨rfl,rfl⟩
      ·cbv
       refine G.n' hin (G.n' rfl ?_)
       try rw[hbyt]
       cbv
       rw[ac]
       refine G.n' rc ?_
       rw[lc]
       refine G.n' rfl ?_
       rw[hone]
       rw[← hL] at go ⊢
       exact za.weak (env':=[(0,.str s),(1,.int .i64 z),(4,.ptr 0 0),(7,.slice 5 bcc (.own 0)),(8,.bool false),(9,.int .i64 y1)]) (.cons rfl (.cons rfl (.cons rfl (.cons rfl (.cons rfl (.cons rfl (.nil _))))))) go
      ·cbv
       refine G.n' hin (G.n' rfl ?_)
       try rw[hbyt]
       cbv
       rw[ac]
       refine G.n' rc (G.n' hown ?_)
       rw[lc]
       refine G.n' rfl ?_
       rw[hone]
       rw[← hL] at go ⊢
       exact za.weak (env':=[(0,.str s),(1,.int .i64 z),(4,.ptr 0 0),(7,.slice 5 bcc (.own 0)),(8,.bool false),(9,.int .i64 y1)]) (.cons rfl (.cons rfl (.cons rfl (.cons rfl (.cons rfl (.cons rfl (.nil _))))))) go
     |false=>
      cbv
      refine G.n' hin (G.n' rfl ?_)
      rw[hbyt,h126]
      cases g2 with
      |true=>
       rcases hcase with ⟨rfl,rfl,rfl,rfl⟩|⟨rfl,rfl⟩
       ·cbv
        refine G.n' hin (G.n' rfl ?_)
        try rw[hbyt]
        cbv
        rw[ac]
        refine G.n' rc ?_
        rw[lc]
        refine G.n' rfl ?_
        rw[hone]
        rw[← hL] at go ⊢
        exact za.weak (env':=[(0,.str s),(1,.int .i64 z),(4,.ptr 0 0),(7,.slice 5 bcc (.own 0)),(8,.bool false),(9,.int .i64 y1)]) (.cons rfl (.cons rfl (.cons rfl (.cons rfl (.cons rfl (.cons rfl (.nil _))))))) go
       ·cbv
        refine G.n' hin (G.n' rfl ?_)
        try rw[hbyt]
        cbv
        rw[ac]
        refine G.n' rc (G.n' hown ?_)
        rw[lc]
        refine G.n' rfl ?_
        rw[hone]
        rw[← hL] at go ⊢
        exact za.weak (env':=[(0,.str s),(1,.int .i64 z),(4,.ptr 0 0),(7,.slice 5 bcc (.own 0)),(8,.bool false),(9,.int .i64 y1)]) (.cons rfl (.cons rfl (.cons rfl (.cons rfl (.cons rfl (.cons rfl (.nil _))))))) go
      |false=>
       rcases hcase with ⟨rfl,rfl,rfl,rfl⟩|⟨rfl,rfl⟩
       ·cbv
        refine G.n' hin (G.n' rfl ?_)
        try rw[hbyt]
        cbv
        rw[ac]
        refine G.n' rc ?_
        rw[lc]
        refine G.n' rfl ?_
        rw[hone]
        rw[← hL] at go ⊢
        exact za.weak (env':=[(0,.str s),(1,.int .i64 z),(4,.ptr 0 0),(7,.slice 5 bcc (.own 0)),(8,.bool true),(9,.int .i64 y1)]) (.cons rfl (.cons rfl (.cons rfl (.cons rfl (.cons rfl (.cons rfl (.nil _))))))) go
       ·cbv
        refine G.n' hin (G.n' rfl ?_)
        try rw[hbyt]
        cbv
        rw[ac]
        refine G.n' rc (G.n' hown ?_)
        rw[lc]
        refine G.n' rfl ?_
        rw[hone]
        rw[← hL] at go ⊢
        exact za.weak (env':=[(0,.str s),(1,.int .i64 z),(4,.ptr 0 0),(7,.slice 5 bcc (.own 0)),(8,.bool true),(9,.int .i64 y1)]) (.cons rfl (.cons rfl (.cons rfl (.cons rfl (.cons rfl (.cons rfl (.nil _))))))) go
end Go.AM
namespace Go.AM
open Go.Proofs
def jaa(s:List UInt8)(i:Nat):AV:=match ju s (s.length+1) (i+1) [] true with
 |none=> .tup [vbu,.int .i64 0,.str zf]
 |some (b,ok,k)=> .tup [.agg (yn i b ok k).1,.int .i64 (yn i b ok k).2.1,.str (yn i b ok k).2.2]
theorem ych(f h:Nat→Option Nat)(i:Nat)(b:List UInt8)(ok:Bool)(k:Nat):renL f h (yn i b ok k).1=(yn i b ok k).1:=by
 unfold yn
 cases ok with
 |false=>rfl
 |true=>cases decide (400<b.length)<;>rfl
theorem qci(f h:Nat→Option Nat)(s:List UInt8)(i:Nat):(jaa s i).ren f h=jaa s i:=by
 unfold jaa
 cases ju s (s.length+1) (i+1) [] true with
 |none=>rfl
 |some r=>
  obtain⟨b,ok,k⟩:=r
  simp only[AV.ren,renL,ych]
theorem yb5(s:List UInt8)(hs:s.length≤1000000)(i:Nat)(z:Int)(hz:z=i)(hi:i<s.length)(S:St)(K:Out→St→Prop)(hK:K (.ret (jaa s i)) S):jb Tryz.prog (Pr.tab real) 30 [.str s,.int .i64 z] S K:=by
 refine jb.lift (K0:=fun o _=>o= .ret (jaa s i)) rfl ?_ (by
  rintro o S0 rfl
  show K (.ret ((jaa s i).ren _ _)) S
  rw[qci];exact hK)
 apply ja (un:=0) Pr.tabOk Pr.mixed Pl.fn30 (nb rfl)
 apply qb (mk:=Pr.tab)
 intro _ _ _ _ _ _ _ arith _ _ _ _ _ _ _ _ _ _ _ _ _ _ _ _ _ _ _ _ _ G
 have hloop:=fun K=>qb6 s hs i z hz K (s.length+1) (i+1) (z+1) [] true (by omega) (by omega) (by simp) (by omega) (by omega)
 have hone:arith BinOp.add IntKind.i64 z 1=z+1:=by rw[G.arith'];exact wrap_i64 _ (by omega) (by omega)
 have h1:ju s (s.length+1) (i+1) [] true=none→∀ S:St,(fun(o:Out) (_:St)=>o= .ret (jaa s i)) (.ret (.tup [.agg [.int .i64 0,.str [],.int .i64 0,.int .i64 0],.int .i64 0,.str zf])) S:=fun h S=>by
  show _=_
  unfold jaa;rw[h];rfl
 have h2:∀ b ok k,ju s (s.length+1) (i+1) [] true=some (b,ok,k)→∀ S:St,(fun(o:Out) (_:St)=>o= .ret (jaa s i)) (.ret (.tup [.agg (yn i b ok k).1,.int .i64 (yn i b ok k).2.1,.str (yn i b ok k).2.2])) S:=fun b ok k h S=>by
  show _=_
  unfold jaa;rw[h]
 have hrow:∀ b ok k,∃ a1 a2 a3 a4,(yn i b ok k).1=[a1,a2,a3,a4]:=fun b ok k=>by
  unfold yn
  cases ok with
  |false=>exact⟨_,_,_,_,rfl⟩
  |true=>cases decide (400<b.length)<;>exact⟨_,_,_,_,rfl⟩
 generalize (fun(o:Out) (_:St)=>o= .ret (jaa s i))=K0 at *
 generalize ju s (s.length+1) (i+1) [] true=r at *
 generalize z+1=z1 at *
 cbv
 refine G.n' rfl ?_
 rw[hone]
 refine G.l' ?_
 change za Tryz.prog (Pr.tab real) 74 c20 _ _ _
 refine za.relax (za.weak (env':=zdt s z z1 [] true) (.cons rfl (.cons rfl (.cons rfl (.cons rfl (.cons rfl (.cons rfl (.nil _))))))) ?_)
 refine hloop _ (fun h caps=>?_) fun b ok k h caps=>?_
 ·have h1:=h1 h
  cbv
  exact h1 _
 ·have h2:=h2 b ok k h
  obtain⟨a1,a2,a3,a4,ha⟩:=hrow b ok k
  rw[ha] at h2 ⊢
  generalize (yn i b ok k).2.1=q1 at *
  generalize (yn i b ok k).2.2=q2 at *
  cbv
  exact h2 _
theorem Pl.fn31:FnOk Tryz.prog 31 (fni Tryz.f31 Pr.a31):=⟨⟨Tryz.f31,Tryz.func31,rfl,rfl,rfl,by kernel_rfl⟩,by kernel_rfl⟩
noncomputable def c21:Code:=(fni Tryz.f31 Pr.a31).loop 0
theorem Pl.c21:qf 49 Pr.a31 c21=true:=by kernel_rfl
theorem yec(K:Ex→Env→St→Prop)(env:Env)(S:St)(h:xg (pAlg Tryz.prog (Pr.tab real) 49) (Pr.tab real) Pr.a31 0 c21 (andThen (za Tryz.prog (Pr.tab real) 49 c21 K) K) env S):za Tryz.prog (Pr.tab real) 49 c21 K env S:=
 vc Pr.tabOk Pr.mixed Pl.c21 h
def xdg:AV:= .slice 9 [.str [60,61],.str [62,61],.str [60,62],.str [124,124],.str [40],.str [41],.str [44],.str [46],.str [59],.str [61],.str [60],.str [62],.str [43],.str [45],.str [42],.str [47]] .exact
def jdt(s:List UInt8)(z y:Int):Env:=[(0,.str s),(1,.int .i64 z),(4,.ptr 0 0),(7,xdg),(8,.int .i64 y)]
theorem yes(x s:List UInt8)(i:Nat):x.isPrefixOf (s.drop i)=(decide (i+x.length≤s.length∨x.length=0) && ((s.drop i).take x.length == x)):=by
 rw[Bool.eq_iff_iff,List.isPrefixOf_iff_prefix,List.prefix_iff_eq_take]
 simp only[Bool.and_eq_true,decide_eq_true_eq,beq_iff_eq]
 constructor
 ·intro h
  refine⟨?_,h.symm⟩
  have:=congrArg List.length h
  simp at this
  omega
 ·rintro⟨_,h⟩
  exact h.symm
theorem jb6(s:List UInt8)(hs:s.length≤1000000)(i:Nat)(hi:i≤s.length)(z:Int)(hz:z=i)(K:Ex→Env→St→Prop)(n:Nat) :
 ∀(k:Nat) (y:Int),y=k→k+n=16 →
  (∀ x,js s i (Pr.signs.drop k)=some x→∀ m:Int,m=x.length→K .ret [(4,.ptr 0 0),(5,.int .i64 m),(6,.str jf)] (ST [.int .i64 3,.str x,.int .i64 0,.int .i64 z] [])) →
  (js s i (Pr.signs.drop k)=none→K (.exit 0) [(4,.ptr 0 0)] (ST row0 [])) →
  za Tryz.prog (Pr.tab real) 49 c21 (Less K) (jdt s z y) (ST row0 []):=by
 induction n with
 |zero=>
  intro k y hy hk hK1 hK2
  have hfin:=hK2 (by have:k=16:=by omega
                     subst this;rfl)
  apply yec
  apply xb (mk:=Pr.tab)
  intro fail need same call loop len slen arith shift cmp conv eqS ltS cat app elt byt subS subL strOf isB fit inb cut room not and eqB avs G
  obtain⟨SL,hSL⟩:∃ SL,SL=[.str [60,61],.str [62,61],.str [60,62],.str [124,124],.str [40],.str [41],.str [44],.str [46],.str [59],.str [61],.str [60],.str [62],.str [43],.str [45],.str [42],AV.str [47]]:=⟨_,rfl⟩
  have hb:cmp BinOp.lss y (len SL)=false:=by rw[G.cmp',G.len',hSL];simp[vb];omega
  unfold jdt xdg
  rw[← hSL]
  generalize za Tryz.prog (Pr.tab real) 49 c21 (Less K)=L at *
  generalize hK':Less K=K' at *
  clear hSL
  cbv
  refine G.n' rfl ?_
  rw[hb]
  cbv
  rw[← hK']
  exact⟨[(4,.ptr 0 0)],.cons rfl (.nil _),hfin⟩
 |succ n ih=>
  intro k y hy hk hK1 hK2
  have hlt:k<Pr.signs.length:=by show k<16;omega
  have hdrop:Pr.signs.drop k=Pr.signs[k]::Pr.signs.drop (k+1):=List.drop_eq_getElem_cons hlt
  obtain⟨sg,hsg⟩:∃ sg,Pr.signs[k]=sg:=⟨_,rfl⟩
  rw[hsg] at hdrop
  have hsl:sg.length≤2∧sg.length≠0:=by
   have:∀ x ∈ Pr.signs,x.length≤2∧x.length≠0:=by decide
   exact this sg (hsg ▸ List.getElem_mem hlt)
  have hstep:js s i (Pr.signs.drop k)=match sg.isPrefixOf (s.drop i) with
   |true=>some sg
   |false=>js s i (Pr.signs.drop (k+1)):=by
   rw[hdrop];unfold js;rw[List.find?_cons]
   cases sg.isPrefixOf (s.drop i)<;>rfl
  rw[hstep] at hK1 hK2
  have hpe:=yes sg s i
  rw[show decide (i+sg.length≤s.length∨sg.length=0)=decide (i+sg.length≤s.length) by rw[Bool.eq_iff_iff];simp only[decide_eq_true_eq];omega] at hpe
  have hyes:sg.isPrefixOf (s.drop i)=true→∀ m:Int,m=sg.length→K .ret [(4,.ptr 0 0),(5,.int .i64 m),(6,.str jf)] (ST [.int .i64 3,.str sg,.int .i64 0,.int .i64 z] []):=fun h=>hK1 sg (by rw[h])
  have hno:sg.isPrefixOf (s.drop i)=false→za Tryz.prog (Pr.tab real) 49 c21 (Less K) (jdt s z (y+1)) (ST row0 []):=fun h=>by
   rw[h] at hK1 hK2
   exact ih (k+1) (y+1) (by omega) (by omega) hK1 hK2
  rw[hpe] at hyes hno
  clear ih hK1 hK2 hstep hpe
  apply yec
  apply xb (mk:=Pr.tab)
  intro _ _ _ _ _ len slen arith _ cmp _ eqS _ _ _ elt _ subS _ _ _ _ inb cut _ _ _ _ _ G
  obtain⟨SL,hSL⟩:∃ SL,SL=[.str [60,61],.str [62,61],.str [60,62],.str [124,124],.str [40],.str [41],.str [44],.str [46],.str [59],.str [61],.str [60],.str [62],.str [43],.str [45],.str [42],AV.str [47]]:=⟨_,rfl⟩
  have hb:cmp BinOp.lss y (len SL)=true:=by rw[G.cmp',G.len',hSL];simp[vb];omega
  have hin:inb y (len SL)=true:=by rw[G.inb',G.len',hSL];simp;omega
  have helt:elt SL y= .str sg:=by
   rw[G.elt',hSL]
   show (Pr.signs.map AV.str).getD y.toNat AV.undef=_
   rw[hy,← hsg]
   simp[List.getD_eq_getElem?_getD,hlt]
  have hsgl:slen sg=(sg.length:Int):=by rw[G.slen']
  have hadd:arith BinOp.add IntKind.i64 z (slen sg)=z+slen sg:=by rw[hsgl,G.arith'];exact wrap_i64 _ (by omega) (by omega)
  have hleq:cmp BinOp.leq (z+slen sg) (slen s)=decide (i+sg.length≤s.length):=by
   rw[hsgl,G.cmp',G.slen'];simp only[vb];rw[Bool.eq_iff_iff];simp only[decide_eq_true_eq];omega
  have hcut:decide (i+sg.length≤s.length)=true→cut z (z+slen sg) (slen s)=true:=fun h=>by have:=of_decide_eq_true h;rw[hsgl,G.cut',G.slen'];simp;omega
  have hsub:subS s z (z+slen sg)=(s.drop i).take sg.length:=by
   rw[hsgl,G.subS',hz]
   simp only[Int.toNat_natCast]
   rw[show ((i:Int)+(sg.length:Int)-(i:Int)).toNat=sg.length by omega]
  have hone:arith BinOp.add IntKind.i64 y 1=y+1:=by rw[G.arith'];exact wrap_i64 _ (by omega) (by omega)
  have heq:eqS ((s.drop i).take sg.length) sg=((s.drop i).take sg.length == sg):=by rw[G.eqS']
  have hyes:=fun h=>hyes h (slen sg) hsgl
  unfold jdt xdg at hno ⊢
  rw[← hSL] at hno ⊢
  generalize hL:za Tryz.prog (Pr.tab real) 49 c21 (Less K)=L at *
  generalize hK':Less K=K' at *
  generalize y+1=y1 at *
  obtain⟨gl,hgl⟩:∃ gl,slen sg=gl:=⟨_,rfl⟩
  rw[hgl] at hsgl hadd hleq hcut hsub hyes
  generalize z+gl=zg at *
  generalize decide (i+sg.length≤s.length)=dl at *
  generalize ((s.drop i).take sg.length == sg)=de at *
  generalize (s.drop i).take sg.length=tk at *
  clear hSL
  cbv
  refine G.n' rfl ?_
  rw[hb]
  cbv
  refine G.n' hin ?_
  rw[helt]
  cbv
  refine G.n' rfl (G.n' rfl ?_)
  rw[hgl,hadd,hleq]
  cases dl with
  |false=>
   have go:=hno rfl
   cbv
   refine G.n' rfl ?_
   rw[hone]
   rw[← hL] at go ⊢
   exact za.weak (env':=[(0,.str s),(1,.int .i64 z),(4,.ptr 0 0),(7,.slice 9 SL .exact),(8,.int .i64 y1)]) (.cons rfl (.cons rfl (.cons rfl (.cons rfl (.cons rfl (.nil _)))))) go
  |true=>
   have hcut:=hcut rfl
   cbv
   refine G.n' rfl ?_
   rw[hadd]
   refine G.n' hcut (G.n' hin ?_)
   rw[hsub,helt]
   cbv
   rw[heq]
   cases de with
   |false=>
    have go:=hno rfl
    cbv
    refine G.n' rfl ?_
    rw[hone]
    rw[← hL] at go ⊢
    exact za.weak (env':=[(0,.str s),(1,.int .i64 z),(4,.ptr 0 0),(7,.slice 9 SL .exact),(8,.int .i64 y1)]) (.cons rfl (.cons rfl (.cons rfl (.cons rfl (.cons rfl (.nil _)))))) go
   |true=>
    have hyes:=hyes rfl
    cbv
    refine G.n' hin ?_
    rw[helt]
    cbv
    rw[← hK']
    exact⟨[(4,.ptr 0 0),(5,.int .i64 gl),(6,.str [48,48,48,48,48])],.cons rfl (.cons rfl (.cons rfl (.nil _))),hyes⟩
def zaj(s:List UInt8)(i:Nat):AV:=match js s i Pr.signs with
 |none=> .tup [vbu,.int .i64 0,.str zf]
 |some x=> .tup [.agg [.int .i64 3,.str x,.int .i64 0,.int .i64 i],.int .i64 x.length,.str jf]
theorem zb6(s:List UInt8)(hs:s.length≤1000000)(i:Nat)(z:Int)(hz:z=i)(hi:i<s.length)(S:St)(K:Out→St→Prop)(hK:K (.ret (zaj s i)) S):jb Tryz.prog (Pr.tab real) 31 [.str s,.int .i64 z] S K:=by
 refine jb.lift (K0:=fun o _=>o= .ret (zaj s i)) rfl ?_ (by
  rintro o S0 rfl
  unfold zaj at hK ⊢
  generalize js s i Pr.signs=r at *
  cases r<;>exact hK)
 apply ja (un:=0) Pr.tabOk Pr.mixed Pl.fn31 (nb rfl)
 apply qb (mk:=Pr.tab)
 intro _ _ _ _ _ _ _ _ _ _ _ _ _ _ _ _ _ _ _ _ _ _ _ _ _ _ _ _ _ G
 have hloop:=fun K=>jb6 s hs i (by omega) z hz K 16 0 0 rfl rfl
 rw[List.drop_zero] at hloop
 have h1:js s i Pr.signs=none→∀ S:St,(fun(o:Out) (_:St)=>o= .ret (zaj s i)) (.ret (.tup [.agg [.int .i64 0,.str [],.int .i64 0,.int .i64 0],.int .i64 0,.str zf])) S:=fun h S=>by
  show _=_
  unfold zaj;rw[h];rfl
 have h2:∀ x,js s i Pr.signs=some x→∀ m:Int,m=x.length→∀ S:St,(fun(o:Out) (_:St)=>o= .ret (zaj s i)) (.ret (.tup [.agg [.int .i64 3,.str x,.int .i64 0,.int .i64 z],.int .i64 m,.str jf])) S:=fun x h m hm S=>by
  show _=_
  unfold zaj;rw[h,hm,hz]
 generalize (fun(o:Out) (_:St)=>o= .ret (zaj s i))=K0 at *
 generalize js s i Pr.signs=r at *
 cbv
 refine G.n' rfl ?_
 refine G.l' ?_
 change za Tryz.prog (Pr.tab real) 49 c21 _ _ _
 refine za.relax (za.weak (env':=jdt s z 0) (.cons rfl (.cons rfl (.cons rfl (.cons rfl (.cons rfl (.nil _)))))) ?_)
 refine hloop _ (fun x h m hm=>?_) fun h=>?_
 ·have h2:=h2 x h m hm
  cbv
  exact h2 _
 ·have h1:=h1 h
  cbv
  exact h1 _
end Go.AM
namespace Go.AM
open Go.Proofs
def vbb:Tk:=⟨0,[],0,0⟩
def refV(r:Tk × Nat × List UInt8):AV:= .tup [r.1.av,.int .i64 r.2.1,.str r.2.2]
def zau(w:List UInt8)(i:Nat):Tk × Nat × List UInt8:=match decide (32<w.length) with
 |true=>(vbb,0,zf)
 |false=>(⟨0,w.map low,0,i⟩,w.length,jf)
def ja5(s d:List UInt8)(i j:Nat):Tk × Nat × List UInt8:=match decide (9223372036854775808≤xf 0 d) with
 |true=>(vbb,0,ja8)
 |false=>match decide (j<s.length) && ve (s.getD j 0) with
  |true=>(vbb,0,zf)
  |false=>(⟨1,[],xf 0 d,i⟩,d.length,jf)
def jau(s:List UInt8)(i:Nat):Tk × Nat × List UInt8:=match ju s (s.length+1) (i+1) [] true with
 |none=>(vbb,0,zf)
 |some (b,ok,k)=>match ok with
  |false=>(vbb,0,zf)
  |true=>match decide (400<b.length) with
   |true=>(vbb,0,jah)
   |false=>(⟨2,b,0,i⟩,k+1-i,jf)
def xau(s:List UInt8)(i:Nat):Tk × Nat × List UInt8:=match js s i Pr.signs with
 |none=>(vbb,0,zf)
 |some x=>(⟨3,x,0,i⟩,x.length,jf)
def yq(s:List UInt8)(i:Nat):Tk × Nat × List UInt8:=match ve (s.getD i 0) with
 |true=>zau ((s.drop i).takeWhile xj) i
 |false=>match jc (s.getD i 0) with
  |true=>ja5 s ((s.drop i).takeWhile jc) i (scan jc s i)
  |false=>match s.getD i 0 == 39 with
   |true=>jau s i
   |false=>xau s i
theorem yc1(w:List UInt8)(i:Nat):qaj w i=refV (zau w i):=by
 unfold qaj zau refV;cases decide (32<w.length)<;>rfl
theorem zdj(s d:List UInt8)(i j:Nat):jap s d i j=refV (ja5 s d i j):=by
 unfold jap ja5 refV
 cases decide (9223372036854775808≤xf 0 d) with
 |true=>rfl
 |false=>cases (decide (j<s.length) && ve (s.getD j 0))<;>rfl
theorem ybf(s:List UInt8)(n:Nat):∀(k:Nat) (b:List UInt8) (ok:Bool) (b':List UInt8) (ok':Bool) (k':Nat),ju s n k b ok=some (b',ok',k')→k≤k'∧k'<s.length:=by
 induction n with
 |zero=>intro k b ok b' ok' k' h;cases h
 |succ n ih=>
  intro k b ok b' ok' k' h
  unfold ju at h
  cases h1:decide (k<s.length) with
  |false=>rw[h1] at h;cases h
  |true=>
   rw[h1] at h
   have h1':=of_decide_eq_true h1
   cases h2:(s.getD k 0 == 39) with
   |false=>rw[h2] at h;have:=ih _ _ _ _ _ _ h;omega
   |true=>
    rw[h2] at h
    cases h3:(decide (k+1<s.length) && s.getD (k+1) 0 == 39) with
    |true=>rw[h3] at h;have:=ih _ _ _ _ _ _ h;omega
    |false=>
     rw[h3] at h
     simp only[Option.some.injEq,Prod.mk.injEq] at h
     omega
theorem zc2(s:List UInt8)(i:Nat):jaa s i=refV (jau s i):=by
 unfold jaa jau refV
 cases hr:ju s (s.length+1) (i+1) [] true with
 |none=>rfl
 |some r=>
  obtain⟨b,ok,k⟩:=r
  have hk:=ybf s _ _ _ _ _ _ _ hr
  unfold yn
  cases ok with
  |false=>rfl
  |true=>
   dsimp only
   cases decide (400<b.length) with
   |true=>rfl
   |false=>
    show AV.tup [.agg [.int .i64 2,.str b,.int .i64 0,.int .i64 i],.int .i64 ((k:Int)+1-i),.str jf]=_
    rw[show (k:Int)+1-i=((k+1-i:Nat):Int) by omega]
    rfl
theorem jc2(s:List UInt8)(i:Nat):zaj s i=refV (xau s i):=by
 unfold zaj xau refV;cases js s i Pr.signs<;>rfl
theorem jbr(s:List UInt8)(i:Nat)(hi:i<s.length)(h:(yq s i).2.2=jf):0<(yq s i).2.1∧i+(yq s i).2.1≤s.length:=by
 unfold yq at h ⊢
 cases h1:ve (s.getD i 0) with
 |true=>
  rw[h1] at h
  have h2:=zbx xj s i hi (by unfold xj;rw[h1];rfl)
  have h3:=xr xj s i (by omega)
  have h4:scan xj s i=i+((s.drop i).takeWhile xj).length:=rfl
  simp only at h ⊢
  unfold zau at h ⊢
  cases hd:decide (32<((s.drop i).takeWhile xj).length) with
  |true=>rw[hd] at h;simp[zf,jf] at h
  |false=>simp only;omega
 |false=>
  rw[h1] at h
  cases h2:jc (s.getD i 0) with
  |true=>
   rw[h2] at h
   have h2:=zbx jc s i hi h2
   have h3:=xr jc s i (by omega)
   have h4:scan jc s i=i+((s.drop i).takeWhile jc).length:=rfl
   simp only at h ⊢
   unfold ja5 at h ⊢
   cases hd:decide (9223372036854775808≤xf 0 ((s.drop i).takeWhile jc)) with
   |true=>rw[hd] at h;simp[ja8,jf] at h
   |false=>
    rw[hd] at h
    cases he:(decide (scan jc s i<s.length) && ve (s.getD (scan jc s i) 0)) with
    |true=>rw[he] at h;simp[zf,jf] at h
    |false=>simp only;omega
  |false=>
   rw[h2] at h
   cases h3:(s.getD i 0 == 39) with
   |true=>
    rw[h3] at h
    simp only at h ⊢
    unfold jau at h ⊢
    cases ht:ju s (s.length+1) (i+1) [] true with
    |none=>rw[ht] at h;simp[zf,jf] at h
    |some r=>
     obtain⟨b,ok,k⟩:=r
     have hk:=ybf s _ _ _ _ _ _ _ ht
     rw[ht] at h
     cases ok with
     |false=>simp[zf,jf] at h
     |true=>
      cases hd:decide (400<b.length) with
      |true=>simp only[hd] at h;simp[jah,jf] at h
      |false=>simp only[hd];omega
   |false=>
    rw[h3] at h
    simp only at h ⊢
    unfold xau at h ⊢
    cases ho:js s i Pr.signs with
    |none=>rw[ho] at h;simp[zf,jf] at h
    |some x=>
     have hm:=List.mem_of_find?_eq_some ho
     have hp:=List.find?_some ho
     have hpos:∀ y ∈ Pr.signs,1≤y.length:=by decide
     have h1:=hpos x hm
     have hpre:x <+: s.drop i:=List.isPrefixOf_iff_prefix.1 hp
     have hl:=hpre.length_le
     simp at hl
     simp only
     omega
theorem jbl(s:List UInt8)(i:Nat)(hi:i<s.length):i+jz s i≤s.length:=by
 unfold jz
 cases zi (s.getD i 0) with
 |true=>simp only;omega
 |false=>
  cases hp:[45,45].isPrefixOf (s.drop i) with
  |false=>simp only;omega
  |true=>
   have hpre:[45,45] <+: s.drop i:=List.isPrefixOf_iff_prefix.1 hp
   have hl:=hpre.length_le
   simp at hl
   have:=xr yl s (i+2) (by omega)
   simp only
   omega
def refN(s:List UInt8):Nat→Nat→List Tk→List Tk ⊕ List UInt8
 | 0,_,_=> .inr []
 |n+1,p,acc=>match decide (p<s.length) with
  |false=> .inl acc
  |true=>match decide (0<jz s p) with
   |true=>refN s n (p+jz s p) acc
   |false=>match (yq s p).2.2 == jf with
    |false=> .inr (yq s p).2.2
    |true=>match decide (600≤acc.length) with
     |true=> .inr zap
     |false=>refN s n (p+(yq s p).2.1) (acc++[(yq s p).1])
end Go.AM
namespace Go.AM
open Go.Proofs
theorem Pl.fn14:FnOk Tryz.prog 14 (fni Tryz.f14 Pr.a14):=⟨⟨Tryz.f14,Tryz.func14,rfl,rfl,rfl,by kernel_rfl⟩,by kernel_rfl⟩
noncomputable def c8:Code:=(fni Tryz.f14 Pr.a14).loop 0
theorem Pl.c8:qf 85 Pr.a14 c8=true:=by kernel_rfl
theorem step8(K:Ex→Env→St→Prop)(env:Env)(S:St)(h:xg (pAlg Tryz.prog (Pr.tab real) 85) (Pr.tab real) Pr.a14 0 c8 (andThen (za Tryz.prog (Pr.tab real) 85 c8 K) K) env S):za Tryz.prog (Pr.tab real) 85 c8 K env S:=
 vc Pr.tabOk Pr.mixed Pl.c8 h
theorem vd2(s:List UInt8)(hs:s.length≤2000)(K:Ex→Env→St→Prop)(n:Nat) :
 ∀(p:Nat) (z:Int) (acc:List Tk) (S:St),z=p→p≤s.length→s.length-p<n→acc.length≤2000→S.caps=xat acc →
  (∀ acc' S',refN s n p acc= .inl acc'→K (.exit 0) [(4,accV acc')] S') →
  (∀ st S',refN s n p acc= .inr st→K .ret [(2,.slice 0 [] .exact),(3,.str st)] S') →
  za Tryz.prog (Pr.tab real) 85 c8 (Less K) [(0,.str s),(4,accV acc),(5,.int .i64 z)] S:=by
 induction n with
 |zero=>intro p z acc S hz hp hn;omega
 |succ n ih=>
  intro p z acc S hz hp hn hacc hcaps hK1 hK2
  unfold refN at hK1 hK2
  obtain⟨r,hr⟩:∃ r,yq s p=r:=⟨_,rfl⟩
  obtain⟨bn,hbn⟩:∃ bn,jz s p=bn:=⟨_,rfl⟩
  rw[hr,hbn] at hK1 hK2
  have hle:p<s.length→r.2.2=jf→0<r.2.1∧p+r.2.1≤s.length:=fun h1 h2=>by
   have:=jbr s p h1 (by rw[hr];exact h2)
   rw[hr] at this;exact this
  have hble:p<s.length→p+bn≤s.length:=fun h=>by rw[← hbn];exact jbl s p h
  have hskip:decide (p<s.length)=true→decide (0<bn)=true→∀(S':St) (y:Int),y=z+bn→S'.caps=S.caps→za Tryz.prog (Pr.tab real) 85 c8 (Less K) [(0,.str s),(4,accV acc),(5,.int .i64 y)] S':=fun h1 h2 S' y hy hc=>by
   have h1':=of_decide_eq_true h1
   have h2':=of_decide_eq_true h2
   have hb:=hble h1'
   exact ih (p+bn) y acc S' (by omega) hb (by omega) hacc (hc.trans hcaps) (fun a S'' h=>hK1 a S'' (by rw[h1,h2];exact h)) (fun a S'' h=>hK2 a S'' (by rw[h1,h2];exact h))
  have hround:decide (p<s.length)=true→decide (0<bn)=false→(r.2.2 == jf)=true→decide (600≤acc.length)=false→∀(S':St) (y:Int),y=z+r.2.1→S'.caps=xat (acc++[r.1]) →
   za Tryz.prog (Pr.tab real) 85 c8 (Less K) [(0,.str s),(4,accV (acc++[r.1])),(5,.int .i64 y)] S':=fun h1 h2 h3 h4 S' y hy hc=>by
   have h1':=of_decide_eq_true h1
   have h4':=of_decide_eq_false h4
   have hb:=hle h1' (by simpa using h3)
   exact ih (p+r.2.1) y _ S' (by omega) hb.2 (by omega) (by simp;omega) hc (fun a S'' h=>hK1 a S'' (by rw[h1,h2,h3,h4];exact h)) (fun a S'' h=>hK2 a S'' (by rw[h1,h2,h3,h4];exact h))
  have hend:decide (p<s.length)=false→∀ S',K (.exit 0) [(4,accV acc)] S':=fun h S'=>hK1 acc S' (by rw[h])
  have herr:decide (p<s.length)=true→decide (0<bn)=false→(r.2.2 == jf)=false→∀ S',K .ret [(2,.slice 0 [] .exact),(3,.str r.2.2)] S':=fun h1 h2 h3 S'=>hK2 _ S' (by rw[h1,h2,h3])
  have hbig:decide (p<s.length)=true→decide (0<bn)=false→(r.2.2 == jf)=true→decide (600≤acc.length)=true→∀ S',K .ret [(2,.slice 0 [] .exact),(3,.str zap)] S':=fun h1 h2 h3 h4 S'=>hK2 zap S' (by rw[h1,h2,h3,h4])
  clear ih hK1 hK2
  obtain⟨O,m,caps⟩:=S
  have hcaps:caps=xat acc:=hcaps
  obtain⟨c,hc⟩:∃ c,s.getD p 0=c:=⟨_,rfl⟩
  obtain⟨cz,hcz⟩:∃ cz:Int,cz=c.toNat:=⟨_,rfl⟩
  have wB:decide (p<s.length)=true→∀ S K,(∀ y:Int,y=bn→K (.ret (.int .i64 y)) S)→jb Tryz.prog (Pr.tab real) 25 [.str s,.int .i64 z] S K:=fun h S K hk=>
   jc8 s (by omega) p z hz (of_decide_eq_true h) S K (by rw[hbn];exact hk)
  have hnx:∀ v:AV,v=refV r→v= .tup [r.1.av,.int .i64 r.2.1,.str r.2.2]:=fun v h=>h
  have wW:ve c=true→∀ S K,(∀ y:Int,y=r.2.1→K (.ret (.tup [r.1.av,.int .i64 y,.str r.2.2])) S)→jb Tryz.prog (Pr.tab real) 28 [.str s,.int .i64 z] S K:=fun h S K hk=>by
   refine vdb s (by omega) p z hz hp S K ?_
   rw[yc1]
   have:zau ((s.drop p).takeWhile xj) p=r:=by rw[← hr];unfold yq;rw[hc,h]
   rw[this];exact hk _ rfl
  have wN:ve c=false→jc c=true→∀ S K,(∀ y:Int,y=r.2.1→K (.ret (.tup [r.1.av,.int .i64 y,.str r.2.2])) S)→jb Tryz.prog (Pr.tab real) 29 [.str s,.int .i64 z] S K:=fun h h' S K hk=>by
   refine qcj s (by omega) p z hz hp S K ?_
   rw[zdj]
   have:ja5 s ((s.drop p).takeWhile jc) p (scan jc s p)=r:=by rw[← hr];unfold yq;rw[hc,h,h']
   rw[this];exact hk _ rfl
  have wT:decide (p<s.length)=true→ve c=false→jc c=false→(c == 39)=true→∀ S K,(∀ y:Int,y=r.2.1→K (.ret (.tup [r.1.av,.int .i64 y,.str r.2.2])) S)→jb Tryz.prog (Pr.tab real) 30 [.str s,.int .i64 z] S K:=fun h0 h h' h3 S K hk=>by
   refine yb5 s (by omega) p z hz (of_decide_eq_true h0) S K ?_
   rw[zc2]
   have:jau s p=r:=by rw[← hr];unfold yq;rw[hc,h,h',h3]
   rw[this];exact hk _ rfl
  have wS:decide (p<s.length)=true→ve c=false→jc c=false→(c == 39)=false→∀ S K,(∀ y:Int,y=r.2.1→K (.ret (.tup [r.1.av,.int .i64 y,.str r.2.2])) S)→jb Tryz.prog (Pr.tab real) 31 [.str s,.int .i64 z] S K:=fun h0 h h' h3 S K hk=>by
   refine zb6 s (by omega) p z hz (of_decide_eq_true h0) S K ?_
   rw[jc2]
   have:xau s p=r:=by rw[← hr];unfold yq;rw[hc,h,h',h3]
   rw[this];exact hk _ rfl
  have hA:∀ S K,K (.ret (.bool (ve c))) S→jb Tryz.prog (Pr.tab real) 26 [.int .u8 cz] S K:=fun S K h=>by rw[hcz];exact ydw c S K h
  have hD:∀ S K,K (.ret (.bool (jc c))) S→jb Tryz.prog (Pr.tab real) 27 [.int .u8 cz] S K:=fun S K h=>by rw[hcz];exact vdw c S K h
  apply step8
  apply xb (mk:=Pr.tab)
  intro _ _ _ _ _ len slen arith _ cmp _ eqS _ _ app _ byt _ _ _ _ _ inb _ room not _ _ _ G
  have hlss:cmp BinOp.lss z (slen s)=decide (p<s.length):=by
   rw[G.cmp',G.slen'];simp only[vb];rw[Bool.eq_iff_iff];simp only[decide_eq_true_eq];omega
  have hin:decide (p<s.length)=true→inb z (slen s)=true:=fun h=>by have:=of_decide_eq_true h;rw[G.inb',G.slen'];simp;omega
  have hbyt:byt s z=cz:=by rw[G.byt',hz,hcz,← hc];rfl
  have h39:cmp BinOp.eql cz 39=(c == 39):=by rw[G.cmp',hcz];exact eqb c 39
  have hgt:∀ y:Int,y=bn→cmp BinOp.gtr y 0=decide (0<bn):=fun y hy=>by
   rw[G.cmp',hy];simp only[vb];rw[Bool.eq_iff_iff];simp only[decide_eq_true_eq];omega
  have haddb:decide (p<s.length)=true→∀ y:Int,y=bn→arith BinOp.add IntKind.i64 z y=z+bn:=fun h y hy=>by
   have:=hble (of_decide_eq_true h)
   rw[hy,G.arith'];exact wrap_i64 _ (by omega) (by omega)
  have haddr:decide (p<s.length)=true→(r.2.2 == jf)=true→∀ y:Int,y=r.2.1→arith BinOp.add IntKind.i64 z y=z+r.2.1:=fun h h' y hy=>by
   have:=hle (of_decide_eq_true h) (by simpa using h')
   rw[hy,G.arith'];exact wrap_i64 _ (by omega) (by omega)
  have hne:not (eqS r.2.2 [48,48,48,48,48])= !(r.2.2 == jf):=by rw[G.not',G.eqS'];rfl
  have hlen:cmp BinOp.geq (len (acc.map Tk.av)) 600=decide (600≤acc.length):=by
   rw[G.cmp',G.len'];simp only[vb,List.length_map];rw[Bool.eq_iff_iff];simp only[decide_eq_true_eq];omega
  have happ:app (acc.map Tk.av) [r.1.av]=(acc++[r.1]).map Tk.av:=by rw[G.app'];simp
  have hroom:room (len ((acc++[r.1]).map Tk.av)) 40=true:=by rw[G.room',G.len'];simp;omega
  have hlen2:len ((acc++[r.1]).map Tk.av)=((acc++[r.1]).length:Int):=by rw[G.len'];simp
  have hvapp:accV (acc++[r.1])= .slice 41 ((acc++[r.1]).map Tk.av) (.own 0)∧xat (acc++[r.1])=[((acc++[r.1]).length:Int)]:=by
   cases acc<;>exact⟨rfl,rfl⟩
  have hcase:(accV acc= .slice 0 [] .exact∧caps=[]∧acc.map Tk.av=[])∨(accV acc= .slice 41 (acc.map Tk.av) (.own 0)∧caps=[(acc.length:Int)]):=by
   rw[hcaps]
   cases acc with
   |nil=>exact .inl ⟨rfl,rfl,rfl⟩
   |cons=>exact .inr ⟨rfl,rfl⟩
  have hown:cmp BinOp.eql (acc.length:Int) (len (acc.map Tk.av))=true:=by rw[G.cmp',G.len'];simp[vb]
  rw[hvapp.1,hvapp.2] at hround
  have hskip:decide (p<s.length)=true→decide (0<bn)=true→∀(O':List (Nat × List AV)) (m':Nat),za Tryz.prog (Pr.tab real) 85 c8 (Less K) [(0,.str s),(4,accV acc),(5,.int .i64 (z+bn))] ⟨O',m',caps⟩:=fun h h' O' m'=>hskip h h' _ _ rfl rfl
  have hround:decide (p<s.length)=true→decide (0<bn)=false→(r.2.2 == jf)=true→decide (600≤acc.length)=false→∀(O':List (Nat × List AV)) (m':Nat),
   za Tryz.prog (Pr.tab real) 85 c8 (Less K) [(0,.str s),(4,.slice 41 ((acc++[r.1]).map Tk.av) (.own 0)),(5,.int .i64 (z+r.2.1))] ⟨O',m',[((acc++[r.1]).length:Int)]⟩:=fun h1 h2 h3 h4 O' m'=>hround h1 h2 h3 h4 _ _ rfl rfl
  have hnn:Nat.beq m m=true:=Nat.beq_refl m
  have hbb:Nat.ble m m=true:=Nat.ble_eq_true_of_le (Nat.le_refl m)
  have hn1:not true=false:=by rw[G.not'];rfl
  clear hvapp hcaps hle hble hr hbn hnx hc hcz
  obtain⟨⟨k1,t1,n1,p1⟩,cnt,st⟩:=r
  rw[show (Tk.av (⟨k1,t1,n1,p1⟩,cnt,st).1)= .agg [.int .i64 k1,.str t1,.int .i64 n1,.int .i64 p1] from rfl] at happ wW wN wT wS
  simp only at happ hroom hlen2 hround wW wN wT wS herr hbig haddr hne
  generalize hL:za Tryz.prog (Pr.tab real) 85 c8 (Less K)=L at hround hskip ⊢
  generalize hK':Less K=K' at hL ⊢
  generalize accV acc=av at *
  generalize ((acc++[(⟨k1,t1,n1,p1⟩:Tk)]).length:Int)=n2 at *
  generalize (acc++[(⟨k1,t1,n1,p1⟩:Tk)]).map Tk.av=cs2 at *
  generalize (acc.length:Int)=nl at *
  generalize acc.map Tk.av=cs at *
  generalize decide (p<s.length)=dp at *
  generalize hdb:decide (0<bn)=db at *
  generalize (st == jf)=ds at *
  generalize decide (600≤acc.length)=da at *
  generalize z+(bn:Int)=zb at *
  generalize z+(cnt:Int)=zc at *
  generalize ve c=lc at *
  generalize jc c=dc at *
  generalize (c == 39)=qc at *
  clear hdb
  cbv at hnn hbb
  cbv
  refine G.n' rfl ?_
  rw[hlss]
  cases dp with
  |false=>
   have hend:=hend rfl
   cbv
   rw[← hK']
   exact⟨[(4,av)],.cons rfl (.nil _),hend _⟩
  |true=>
   have hin:=hin rfl
   have hskip:=hskip rfl
   have hround:=hround rfl
   have herr:=herr rfl
   have hbig:=hbig rfl
   have haddb:=haddb rfl
   have haddr:=haddr rfl
   have wT:=wT rfl
   have wS:=wS rfl
   cbv
   refine G.c' (wB rfl _ _ fun y hy=>?_)
   have hgt:=hgt y hy
   have haddb:=haddb y hy
   cbv
   refine G.n' rfl ?_
   rw[hgt]
   cases db with
   |true=>
    have hskip:=hskip rfl
    cbv
    refine G.n' rfl ?_
    rw[haddb]
    rw[← hL] at hskip ⊢
    exact za.weak (env':=[(0,.str s),(4,av),(5,.int .i64 zb)]) (.cons rfl (.cons rfl (.cons rfl (.nil _)))) (hskip _ _)
   |false=>
    have hround:=hround rfl
    have herr:=herr rfl
    have hbig:=hbig rfl
    cbv
    refine G.n' hin ?_
    rw[hbyt]
    refine G.c' (hA _ _ ?_)
    cbv
    refine G.n' hin ?_
    try rw[hbyt]
    refine G.c' (hD _ _ ?_)
    cases lc with
    |true=>
     cbv
     refine G.c' (wW rfl _ _ fun y2 hy2=>?_)
     have haddr:=fun h=>haddr h y2 hy2
     cbv
     iterate 4 (first|(rw[hnn];cbv)|(rw[hbb];cbv)|skip)
     rw[hne]
     cases ds with
     |false=>
      have herr:=herr rfl
      cbv
      rw[← hK']
      exact⟨[(2,.slice 0 [] .exact),(3,.str st)],.cons rfl (.cons rfl (.nil _)),herr _⟩
     |true=>
      have hround:=hround rfl
      have hbig:=hbig rfl
      have haddr:=haddr rfl
      rcases hcase with ⟨rfl,rfl,rfl⟩|⟨rfl,rfl⟩
      ·cbv
       refine G.n' rfl ?_
       rw[hlen]
       cases da with
       |true=>
        have hbig:=hbig rfl
        cbv
        rw[← hK']
        exact⟨[(2,.slice 0 [] .exact),(3,.str [53,52,48,48,48])],.cons rfl (.cons rfl (.nil _)),hbig _⟩
       |false=>
        have hround:=hround rfl
        cbv
        iterate 4 (first|(rw[hbb];cbv)|(rw[hnn];cbv)|skip)
        rw[happ]
        refine G.n' rfl (G.n' hroom (G.n' rfl ?_))
        rw[hlen2,haddr]
        rw[← hL] at hround ⊢
        exact za.weak (env':=[(0,.str s),(4,.slice 41 cs2 (.own 0)),(5,.int .i64 zc)]) (.cons rfl (.cons rfl (.cons rfl (.nil _)))) (hround _ _)
      ·cbv
       refine G.n' rfl ?_
       rw[hlen]
       cases da with
       |true=>
        have hbig:=hbig rfl
        cbv
        rw[← hK']
        exact⟨[(2,.slice 0 [] .exact),(3,.str [53,52,48,48,48])],.cons rfl (.cons rfl (.nil _)),hbig _⟩
       |false=>
        have hround:=hround rfl
        cbv
        iterate 4 (first|(rw[hbb];cbv)|(rw[hnn];cbv)|skip)
        rw[happ]
        refine G.n' rfl (G.n' hroom (G.n' hown (G.n' rfl ?_)))
        rw[hlen2,haddr]
        rw[← hL] at hround ⊢
        exact za.weak (env':=[(0,.str s),(4,.slice 41 cs2 (.own 0)),(5,.int .i64 zc)]) (.cons rfl (.cons rfl (.cons rfl (.nil _)))) (hround _ _)
    |false=>
     cases dc with
     |true=>
      cbv
      refine G.c' (wN rfl rfl _ _ fun y2 hy2=>?_)
      have haddr:=fun h=>haddr h y2 hy2
      cbv
      iterate 4 (first|(rw[hnn];cbv)|(rw[hbb];cbv)|skip)
      rw[hne]
      cases ds with
      |false=>
       have herr:=herr rfl
       cbv
       rw[← hK']
       exact⟨[(2,.slice 0 [] .exact),(3,.str st)],.cons rfl (.cons rfl (.nil _)),herr _⟩
      |true=>
       have hround:=hround rfl
       have hbig:=hbig rfl
       have haddr:=haddr rfl
       rcases hcase with ⟨rfl,rfl,rfl⟩|⟨rfl,rfl⟩
       ·cbv
        refine G.n' rfl ?_
        rw[hlen]
        cases da with
        |true=>
         have hbig:=hbig rfl
         cbv
         rw[← hK']
         exact⟨[(2,.slice 0 [] .exact),(3,.str [53,52,48,48,48])],.cons rfl (.cons rfl (.nil _)),hbig _⟩
        |false=>
         have hround:=hround rfl
         cbv
         iterate 4 (first|(rw[hbb];cbv)|(rw[hnn];cbv)|skip)
         rw[happ]
         refine G.n' rfl (G.n' hroom (G.n' rfl ?_))
         rw[hlen2,haddr]
         rw[← hL] at hround ⊢
         exact za.weak (env':=[(0,.str s),(4,.slice 41 cs2 (.own 0)),(5,.int .i64 zc)]) (.cons rfl (.cons rfl (.cons rfl (.nil _)))) (hround _ _)
       ·cbv
        refine G.n' rfl ?_
        rw[hlen]
        cases da with
        |true=>
         have hbig:=hbig rfl
         cbv
         rw[← hK']
         exact⟨[(2,.slice 0 [] .exact),(3,.str [53,52,48,48,48])],.cons rfl (.cons rfl (.nil _)),hbig _⟩
        |false=>
         have hround:=hround rfl
         cbv
         iterate 4 (first|(rw[hbb];cbv)|(rw[hnn];cbv)|skip)
         rw[happ]
         refine G.n' rfl (G.n' hroom (G.n' hown (G.n' rfl ?_)))
         rw[hlen2,haddr]
         rw[← hL] at hround ⊢
         exact za.weak (env':=[(0,.str s),(4,.slice 41 cs2 (.own 0)),(5,.int .i64 zc)]) (.cons rfl (.cons rfl (.cons rfl (.nil _)))) (hround _ _)
     |false=>
      cbv
      refine G.n' hin (G.n' rfl ?_)
      try rw[hbyt]
      rw[h39]
      cases qc with
      |true=>
       cbv
       refine G.c' (wT rfl rfl rfl _ _ fun y2 hy2=>?_)
       have haddr:=fun h=>haddr h y2 hy2
       cbv
       iterate 4 (first|(rw[hnn];cbv)|(rw[hbb];cbv)|skip)
       rw[hne]
       cases ds with
       |false=>
        have herr:=herr rfl
        cbv
        rw[← hK']
        exact⟨[(2,.slice 0 [] .exact),(3,.str st)],.cons rfl (.cons rfl (.nil _)),herr _⟩
       |true=>
        have hround:=hround rfl
        have hbig:=hbig rfl
        have haddr:=haddr rfl
        rcases hcase with ⟨rfl,rfl,rfl⟩|⟨rfl,rfl⟩
        ·cbv
         refine G.n' rfl ?_
         rw[hlen]
         cases da with
         |true=>
          have hbig:=hbig rfl
          cbv
          rw[← hK']
          exact⟨[(2,.slice 0 [] .exact),(3,.str [53,52,48,48,48])],.cons rfl (.cons rfl (.nil _)),hbig _⟩
         |false=>
          have hround:=hround rfl
          cbv
          iterate 4 (first|(rw[hbb];cbv)|(rw[hnn];cbv)|skip)
          rw[happ]
          refine G.n' rfl (G.n' hroom (G.n' rfl ?_))
          rw[hlen2,haddr]
          rw[← hL] at hround ⊢
          exact za.weak (env':=[(0,.str s),(4,.slice 41 cs2 (.own 0)),(5,.int .i64 zc)]) (.cons rfl (.cons rfl (.cons rfl (.nil _)))) (hround _ _)
        ·cbv
         refine G.n' rfl ?_
         rw[hlen]
         cases da with
         |true=>
          have hbig:=hbig rfl
          cbv
          rw[← hK']
          exact⟨[(2,.slice 0 [] .exact),(3,.str [53,52,48,48,48])],.cons rfl (.cons rfl (.nil _)),hbig _⟩
         |false=>
          have hround:=hround rfl
          cbv
          iterate 4 (first|(rw[hbb];cbv)|(rw[hnn];cbv)|skip)
          rw[happ]
          refine G.n' rfl (G.n' hroom (G.n' hown (G.n' rfl ?_)))
          rw[hlen2,haddr]
          rw[← hL] at hround ⊢
          exact za.weak (env':=[(0,.str s),(4,.slice 41 cs2 (.own 0)),(5,.int .i64 zc)]) (.cons rfl (.cons rfl (.cons rfl (.nil _)))) (hround _ _)
      |false=>
       cbv
       refine G.c' (wS rfl rfl rfl _ _ fun y2 hy2=>?_)
       have haddr:=fun h=>haddr h y2 hy2
       cbv
       iterate 4 (first|(rw[hnn];cbv)|(rw[hbb];cbv)|skip)
       rw[hne]
       cases ds with
       |false=>
        have herr:=herr rfl
        cbv
        rw[← hK']
        exact⟨[(2,.slice 0 [] .exact),(3,.str st)],.cons rfl (.cons rfl (.nil _)),herr _⟩
       |true=>
        have hround:=hround rfl
        have hbig:=hbig rfl
        have haddr:=haddr rfl
        rcases hcase with ⟨rfl,rfl,rfl⟩|⟨rfl,rfl⟩
        ·cbv
         refine G.n' rfl ?_
         rw[hlen]
         cases da with
         |true=>
          have hbig:=hbig rfl
          cbv
          rw[← hK']
          exact⟨[(2,.slice 0 [] .exact),(3,.str [53,52,48,48,48])],.cons rfl (.cons rfl (.nil _)),hbig _⟩
         |false=>
          have hround:=hround rfl
          cbv
          iterate 4 (first|(rw[hbb];cbv)|(rw[hnn];cbv)|skip)
          rw[happ]
          refine G.n' rfl (G.n' hroom (G.n' rfl ?_))
          rw[hlen2,haddr]
          rw[← hL] at hround ⊢
          exact za.weak (env':=[(0,.str s),(4,.slice 41 cs2 (.own 0)),(5,.int .i64 zc)]) (.cons rfl (.cons rfl (.cons rfl (.nil _)))) (hround _ _)
        ·cbv
         refine G.n' rfl ?_
         rw[hlen]
         cases da with
         |true=>
          have hbig:=hbig rfl
          cbv
          rw[← hK']
          exact⟨[(2,.slice 0 [] .exact),(3,.str [53,52,48,48,48])],.cons rfl (.cons rfl (.nil _)),hbig _⟩
         |false=>
          have hround:=hround rfl
          cbv
          iterate 4 (first|(rw[hbb];cbv)|(rw[hnn];cbv)|skip)
          rw[happ]
          refine G.n' rfl (G.n' hroom (G.n' hown (G.n' rfl ?_)))
          rw[hlen2,haddr]
          rw[← hL] at hround ⊢
          exact za.weak (env':=[(0,.str s),(4,.slice 41 cs2 (.own 0)),(5,.int .i64 zc)]) (.cons rfl (.cons rfl (.cons rfl (.nil _)))) (hround _ _)
end Go.AM
namespace Go.AM
open Go.Proofs
def vr(s:List UInt8):List Tk × List UInt8:=match decide (2000<s.length) with
 |true=>([],zap)
 |false=>match refN s (s.length+1) 0 [] with
  |.inl l=>(l,jf)
  |.inr st=>([],st)
theorem xb6(s:List UInt8)(S:St)(K:Out→St→Prop)(hK:K (.ret (.tup [tokV (vr s).1,.str (vr s).2])) S):jb Tryz.prog (Pr.tab real) 14 [.str s] S K:=by
 refine jb.lift (K0:=fun o _=>o= .ret (.tup [accV (vr s).1,.str (vr s).2])) rfl ?_ (by
  rintro o S0 rfl
  generalize vr s=r at *
  obtain⟨l,st⟩:=r
  cases l<;>exact hK)
 apply ja (un:=0) Pr.tabOk Pr.mixed Pl.fn14 (nb rfl)
 apply qb (mk:=Pr.tab)
 intro _ _ _ _ _ _ slen _ _ cmp _ _ _ _ _ _ _ _ _ _ _ _ _ _ _ _ _ _ _ G
 have hgt:cmp BinOp.gtr (slen s) 2000=decide (2000<s.length):=by
  rw[G.cmp',G.slen'];simp only[vb];rw[Bool.eq_iff_iff];simp only[decide_eq_true_eq];omega
 have hbig:decide (2000<s.length)=true→∀ S:St,(fun(o:Out) (_:St)=>o= .ret (.tup [accV (vr s).1,.str (vr s).2])) (.ret (.tup [.slice 0 [] .exact,.str zap])) S:=fun h S=>by
  show _=_
  unfold vr
  rw[h];rfl
 have hloop:decide (2000<s.length)=false→∀ K:Ex→Env→St→Prop,(∀ acc' S',refN s (s.length+1) 0 []= .inl acc'→K (.exit 0) [(4,accV acc')] S') →
  (∀ st S',refN s (s.length+1) 0 []= .inr st→K .ret [(2,.slice 0 [] .exact),(3,.str st)] S')→za Tryz.prog (Pr.tab real) 85 c8 (Less K) [(0,.str s),(4,accV []),(5,.int .i64 0)] ⟨[],0,[]⟩:=fun h K h1 h2=>by
  have h':=of_decide_eq_false h
  exact vd2 s (by omega) K (s.length+1) 0 0 [] _ rfl (by omega) (by omega) (by simp) rfl h1 h2
 have hl:decide (2000<s.length)=false→∀ l,refN s (s.length+1) 0 []= .inl l→∀ S:St,(fun(o:Out) (_:St)=>o= .ret (.tup [accV (vr s).1,.str (vr s).2])) (.ret (.tup [accV l,.str jf])) S:=fun h l hl S=>by
  show _=_
  unfold vr
  rw[h,hl]
 have hr:decide (2000<s.length)=false→∀ st,refN s (s.length+1) 0 []= .inr st→∀ S:St,(fun(o:Out) (_:St)=>o= .ret (.tup [accV (vr s).1,.str (vr s).2])) (.ret (.tup [.slice 0 [] .exact,.str st])) S:=fun h st hl S=>by
  show _=_
  unfold vr
  rw[h,hl]
  rfl
 generalize (fun(o:Out) (_:St)=>o= .ret (.tup [accV (vr s).1,.str (vr s).2]))=K0 at *
 generalize refN s (s.length+1) 0 []=sc at *
 generalize decide (2000<s.length)=db at *
 cbv
 refine G.n' rfl ?_
 rw[hgt]
 cases db with
 |true=>
  have hbig:=hbig rfl
  cbv
  exact hbig _
 |false=>
  have hloop:=hloop rfl
  have hl:=hl rfl
  have hr:=hr rfl
  cbv
  refine G.l' ?_
  change za Tryz.prog (Pr.tab real) 85 c8 _ _ _
  refine za.relax (za.weak (env':=[(0,.str s),(4,accV []),(5,.int .i64 0)]) (.cons rfl (.cons rfl (.cons rfl (.nil _)))) ?_)
  refine hloop _ (fun l S' h=>?_) fun st S' h=>?_
  ·have hl:=hl l h
   generalize accV l=v at *
   cbv
   exact hl _
  ·have hr:=hr st h
   cbv
   exact hr _
end Go.AM
