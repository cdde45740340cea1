/- The parser's functions: what is seen, taken, needed; nodes. -/
import Derived.Test.YteomefghofhkiaaGreatDoorRdA
set_option maxRecDepth 100000
set_option maxHeartbeats 40000000
set_option linter.unusedVariables false
set_option linter.unusedSimpArgs false
namespace Go.AM.Ps
open Go.Proofs W
theorem Ps.fn22:FnOk Tryz.prog 22 (fni Tryz.f22 Pr.a22):=⟨⟨Tryz.f22,Tryz.func22,rfl,rfl,rfl,by kernel_rfl⟩,by kernel_rfl⟩
theorem Ps.fn41:FnOk Tryz.prog 41 (fni Tryz.f41 Pr.a41):=⟨⟨Tryz.f41,Tryz.func41,rfl,rfl,rfl,by kernel_rfl⟩,by kernel_rfl⟩
theorem Ps.fn84:FnOk Tryz.prog 84 (fni Tryz.f84 Pr.a84):=⟨⟨Tryz.f84,Tryz.func84,rfl,rfl,rfl,by kernel_rfl⟩,by kernel_rfl⟩
noncomputable def c22:Code:=(fni Tryz.f22 Pr.a22).loop 0
theorem Ps.c22:qf 31 Pr.a22 c22=true:=by kernel_rfl
theorem vec(K:Ex→Env→St→Prop)(env:Env)(S:St)(h:xg (pAlg Tryz.prog (Pr.tab real) 31) (Pr.tab real) Pr.a22 0 c22 (andThen (za Tryz.prog (Pr.tab real) 31 c22 K) K) env S):za Tryz.prog (Pr.tab real) 31 c22 K env S:=
 vc Pr.tabOk Pr.mixed Ps.c22 h
noncomputable def c84:Code:=(fni Tryz.f84 Pr.a84).loop 0
theorem Ps.c84:qf 19 Pr.a84 c84=true:=by kernel_rfl
theorem jec(K:Ex→Env→St→Prop)(env:Env)(S:St)(h:xg (pAlg Tryz.prog (Pr.tab real) 19) (Pr.tab real) Pr.a84 0 c84 (andThen (za Tryz.prog (Pr.tab real) 19 c84 K) K) env S):za Tryz.prog (Pr.tab real) 19 c84 K env S:=
 vc Pr.tabOk Pr.mixed Ps.c84 h
noncomputable def c80:Code:=(fni Tryz.f80 Pr.a80).loop 0
theorem Ps.c80:qf 16 Pr.a80 c80=true:=by kernel_rfl
theorem xdd(K:Ex→Env→St→Prop)(env:Env)(S:St)(h:xg (pAlg Tryz.prog (Pr.tab real) 16) (Pr.tab real) Pr.a80 0 c80 (andThen (za Tryz.prog (Pr.tab real) 16 c80 K) K) env S):za Tryz.prog (Pr.tab real) 16 c80 K env S:=
 vc Pr.tabOk Pr.mixed Ps.c80 h
def xdx(t:List Tk):Prop:=∀(s:List UInt8) (z:Nat) (r:List AV) (K:Out→St→Prop),At t z r→(∀ r',sees t z s=true→At t (z+1) r'→K (.ret (.tup [])) (P0 r'))→(∀ z' r',sees t z s=false→At t z' r'→K (.panic vg) (P0 r')) →
 jb Tryz.prog (Pr.tab real) 41 [.ptr 0 0,.str s] (P0 r) K
def strs(l:List (List UInt8)):List AV:=l.map AV.str
def jc7(l:List (List UInt8))(n i:Int):Env:=[(0,.ptr 0 0),(21,.slice 9 (strs l) .no),(22,.int .i64 n),(23,.int .i64 i)]
theorem ydc{t:List Tk}(ht:Toks t)(l:List (List UInt8))(hl:l.length≤1000)(hneed:l≠[]→xdx t)(n:Int)(hn:n=l.length)(K:Ex→Env→St→Prop)(k:Nat) :
 ∀(i:Nat) (y:Int) (z:Nat) (r:List AV),y=i→i+k=l.length→At t z r →
  (∀ z' r',needs t (l.drop i) z= .ok () z'→At t z' r'→K (.exit 0) [(0,.ptr 0 0)] (P0 r'))→(∀ z' r',needs t (l.drop i) z= .wrong→At t z' r'→K (.panic vg) [] (P0 r')) →
  za Tryz.prog (Pr.tab real) 31 c22 (Less K) (jc7 l n y) (P0 r):=by
 induction k with
 |zero=>
  intro i y z r hy hi h hK1 hK2
  have hd:l.drop i=[]:=List.drop_eq_nil_of_le (by omega)
  rw[hd] at hK1
  have hfin:=hK1 z r rfl h
  apply vec
  apply xb (mk:=Pr.tab)
  intro fail need same call loop len slen arith shift cmp conv eqS ltS cat app elt byt subS subL strOf isB fit inb cut room not and eqB avs G
  have hb:cmp BinOp.lss y n=false:=by
   rw[G.cmp'];simp[vb];omega
  generalize za Tryz.prog (Pr.tab real) 31 c22 (Less K)=L at *
  generalize hK':Less K=K' at *
  clear hK1 hK2
  unfold jc7
  cbv
  refine G.n' rfl ?_
  rw[hb]
  cbv
  rw[← hK']
  exact⟨[(0,.ptr 0 0)],.cons rfl (.nil _),hfin⟩
 |succ k ih=>
  intro i y z r hy hi h hK1 hK2
  have hlt:i<l.length:=by omega
  have hd:l.drop i=l[i]::l.drop (i+1):=List.drop_eq_getElem_cons hlt
  rw[hd] at hK1 hK2
  have hK1:∀ z' r',(need t l[i] z).bind (fun _ z=>needs t (l.drop (i+1)) z)= .ok () z'→At t z' r'→K (.exit 0) [(0,.ptr 0 0)] (P0 r'):=hK1
  have hK2:∀ z' r',(need t l[i] z).bind (fun _ z=>needs t (l.drop (i+1)) z)= .wrong→At t z' r'→K (.panic vg) [] (P0 r'):=hK2
  have hnd:=fun K=>hneed (by intro q;rw[q] at hlt;simp at hlt) (l[i]'hlt) z r K h
  unfold need at hK1 hK2
  have hnext:∀(y':Int) r',y'=(i+1:Nat)→sees t z l[i]=true→At t (z+1) r'→za Tryz.prog (Pr.tab real) 31 c22 (Less K) (jc7 l n y') (P0 r'):=by
   intro y' r' hy' hs hr'
   rw[hs] at hK1 hK2
   exact ih (i+1) y' (z+1) r' hy' (by omega) hr' hK1 hK2
  have hbad:∀ z' r',sees t z l[i]=false→At t z' r'→K (.panic vg) [] (P0 r'):=by
   intro z' r' hs hr'
   rw[hs] at hK2
   exact hK2 z' r' rfl hr'
  apply vec
  apply xb (mk:=Pr.tab)
  intro _ _ _ _ _ len _ arith _ cmp _ _ _ _ _ elt _ _ _ _ _ _ inb _ _ _ _ _ _ G
  have hb:cmp BinOp.lss y n=true:=by
   rw[G.cmp'];simp[vb];omega
  have hin:inb y (len (strs l))=true:=by
   rw[G.inb',G.len'];simp[strs];omega
  have hel:elt (strs l) y= .str l[i]:=by
   rw[G.elt'];simp only[strs];rw[show y.toNat=i by omega];simp[hlt]
  obtain⟨y',hy'⟩:∃ y':Int,y'=(i+1:Nat):=⟨_,rfl⟩
  have hadd:arith BinOp.add IntKind.i64 y 1=y':=by
   rw[G.arith',hy'];rw[hy];exact wrap_i64 _ (by omega) (by omega)
  have hnext:=fun r'=>hnext y' r' hy'
  generalize hL:za Tryz.prog (Pr.tab real) 31 c22 (Less K)=L at *
  generalize hK':Less K=K' at *
  unfold jc7 at *
  generalize strs l=ws at *
  generalize l[i]=s at *
  clear hK1 hK2 ih hneed hd hy' hy
  cbv
  refine G.n' rfl ?_
  rw[hb]
  cbv
  refine G.n' hin ?_
  rw[hel]
  cbv
  refine G.c' (hnd _ (fun r' hs hr'=>?_) (fun z' r' hs hr'=>?_))
  ·have hgo:=hnext r' hs hr'
   cbv
   refine G.n' rfl ?_
   rw[hadd]
   rw[← hL] at hgo ⊢
   exact za.weak (.cons rfl (.cons rfl (.cons rfl (.cons rfl (.nil _))))) hgo
  ·have hgo:=hbad z' r' hs hr'
   cbv
   rw[← hK']
   exact⟨[],.nil _,hgo⟩
theorem zct{t:List Tk}(ht:Toks t)(s:List UInt8)(l:List (List UInt8))(hl:l.length≤1000)(hneed:l≠[]→xdx t)(z:Nat)(r:List AV)(h:At t z r) :
 jb Tryz.prog (Pr.tab real) 22 [.ptr 0 0,.slice 9 (strs (s::l)) .exact] (P0 r) (Post t (take t s l z) AV.bool):=by
 have hask:=fun K hK=>qa1 t ht.len z 0 0 rfl (by omega) s r h K hK
 simp only[Nat.add_zero] at hask
 have htl:=ht.len
 have hr:take t s l z=match sees t z s with
  |true=>(needs t l (z+1)).bind fun _ z=> .ok true z
  |false=> .ok false z:=rfl
 rw[hr]
 obtain⟨n,hn⟩:∃ n:Int,n=l.length:=⟨_,rfl⟩
 have hloop:∀(K:Ex→Env→St→Prop) (r':List AV),sees t z s=true→At t (z+1) r'→(∀ z' r',needs t l (z+1)= .ok () z'→At t z' r'→K (.exit 0) [(0,.ptr 0 0)] (P0 r'))→(∀ z' r',needs t l (z+1)= .wrong→At t z' r'→K (.panic vg) [] (P0 r')) →
  za Tryz.prog (Pr.tab real) 31 c22 (Less K) (jc7 l n 0) (P0 r'):=fun K r' hs hr' a b=>ydc ht l hl hneed n hn K l.length 0 0 (z+1) r' rfl (by omega) hr' a b
 have hlt:sees t z s=true→z<t.length:=by
  intro q
  unfold sees at q
  rcases Nat.lt_or_ge z t.length with w|w
  ·exact w
  ·rw[List.getElem?_eq_none w] at q;cases q
 have hat:∀(y:Int),y=(z+1:Nat)→sees t z s=true→At t (z+1) [tokV t,.int .i64 y]:=fun y hy q=>⟨by rw[hy],hlt q⟩
 cases hb:sees t z s with
 |false=>
  rw[hb] at hask
  have hfin:∀ S',S'=P0 r→Post t (Rs.ok false z) AV.bool (.ret (.bool false)) S':=fun S' q=>⟨z,⟨.ret _ _ (Sub.refl _ _),rfl⟩,by rw[q];exact h,by rw[q];exact Nat.le_refl 1⟩
  simp only[]
  generalize Post t (Rs.ok false z) AV.bool=K0 at *
  apply ja (un:=0) Pr.tabOk Pr.mixed Ps.fn22 (nb rfl)
  apply qb (mk:=Pr.tab)
  intro fail need same call loop len slen arith shift cmp conv eqS ltS cat app elt byt subS subL strOf isB fit inb cut room not and eqB avs G
  have hnot:=G.not2
  have hin:inb 0 (len (strs (s::l)))=true:=by rw[G.inb',G.len'];simp[strs]
  have hel:elt (strs (s::l)) 0= .str s:=by rw[G.elt'];rfl
  generalize strs (s::l)=ws at *
  unfold P0 at *
  clear hloop hat hlt hr
  cbv
  refine G.n' hin ?_
  rw[hel]
  cbv
  refine G.c' (hask _ ?_)
  cbv
  rw[hnot]
  cbv
  exact hfin _ rfl
 |true=>
  rw[hb] at hask
  have hloop:=fun K r'=>hloop K r' hb
  obtain⟨y,hy⟩:∃ y:Int,y=(z+1:Nat):=⟨_,rfl⟩
  have hat:=hat y hy hb
  have hloop:=fun K=>hloop K _ hat
  have hok:∀ z' r',needs t l (z+1)= .ok () z'→At t z' r'→Post t ((needs t l (z+1)).bind fun _ z=> .ok true z) AV.bool (.ret (.bool true)) (P0 r'):=by
   intro z' r' hq hr'
   rw[hq]
   exact⟨z',⟨.ret _ _ (Sub.refl _ _),rfl⟩,hr',Nat.le_refl 1⟩
  have hwr:∀ z' r',needs t l (z+1)= .wrong→At t z' r'→Post t ((needs t l (z+1)).bind fun _ z=> .ok true z) AV.bool (.panic vg) (P0 r'):=by
   intro z' r' hq hr'
   rw[hq]
   exact⟨z',rfl,hr',Nat.le_refl 1⟩
  simp only[]
  generalize Post t ((needs t l (z+1)).bind fun _ z=> .ok true z) AV.bool=K0 at *
  generalize needs t l (z+1)=nn at *
  obtain⟨h1,h2⟩:=h
  obtain⟨tv,htv⟩:∃ tv,tokV t=tv:=⟨_,rfl⟩
  rw[htv] at h1 hloop
  obtain⟨zz,hzz⟩:∃ zz:Int,zz=(z:Int):=⟨_,rfl⟩
  rw[← hzz] at h1
  subst h1
  apply ja (un:=0) Pr.tabOk Pr.mixed Ps.fn22 (nb rfl)
  apply qb (mk:=Pr.tab)
  intro _ _ _ _ _ len _ arith _ _ _ _ _ _ _ elt _ _ subL _ _ _ inb cut _ not _ _ _ G
  have hnot:=G.not2
  have hin:inb 0 (len (strs (s::l)))=true:=by rw[G.inb',G.len'];simp[strs]
  have hel:elt (strs (s::l)) 0= .str s:=by rw[G.elt'];rfl
  have hadd:arith BinOp.add IntKind.i64 zz 1=y:=by rw[G.arith',hy,hzz];exact wrap_i64 _ (by omega) (by omega)
  have hcut:cut 1 (len (strs (s::l))) (len (strs (s::l)))=true:=by rw[G.cut',G.len'];simp[strs];omega
  have hsub:subL (strs (s::l)) 1 (len (strs (s::l)))=strs l:=by
   rw[G.subL',G.len']
   simp only[strs,List.map_cons,List.length_cons,List.length_map]
   rw[show ((1:Int)).toNat=1 from rfl,show (((l.length+1:Nat):Int)-1).toNat=l.length by omega]
   simp[List.take_of_length_le]
  have hlen:len (strs l)=n:=by rw[G.len',hn];simp[strs]
  generalize strs (s::l)=ws at *
  unfold P0 jc7 at *
  generalize strs l=wl at *
  clear hr hlt htv hzz hy hat
  cbv
  refine G.n' hin ?_
  rw[hel]
  cbv
  refine G.c' (hask _ ?_)
  cbv
  rw[hnot]
  cbv
  refine G.n' rfl ?_
  rw[hadd]
  refine G.n' hcut ?_
  rw[hsub,hlen]
  refine G.l' ?_
  change za Tryz.prog (Pr.tab real) 31 c22 _ _ _
  refine za.relax (za.weak (.cons rfl (.cons rfl (.cons rfl (.cons rfl (.nil _))))) (hloop _ (fun z' r' hq hr'=>?_) (fun z' r' hq hr'=>?_)))
  ·have hgo:=hok z' r' hq hr'
   cbv
   exact hgo
  ·have hgo:=hwr z' r' hq hr'
   cbv
   exact hgo
theorem jct{t:List Tk}(ht:Toks t):xdx t:=by
 intro s z r K h hok hwr
 have hask:=zct ht s [] (by simp) (fun q=>absurd rfl q) z r h
 have hask:∀ K:Out→St→Prop,(∀ r',sees t z s=true→At t (z+1) r'→K (.ret (.bool true)) (P0 r'))→(∀ r',sees t z s=false→At t z r'→K (.ret (.bool false)) (P0 r')) →
  jb Tryz.prog (Pr.tab real) 22 [.ptr 0 0,.slice 9 [.str s] .exact] (P0 r) K:=by
  intro K a b
  refine jv (S:=P0 r) (o:=0) (args0:=[.ptr 0 0,.slice 9 [.str s] .exact]) ?_ ycv h Nat.one_pos hask ?_ ?_
  ·simp only[renL,AV.ren,show AM.one 0 0 0=some 0 from rfl];rfl
  ·intro x z' r' hx hr'
   unfold take at hx
   split at hx
   ·rename_i hs
    simp only[needs,Rs.bind,Rs.ok.injEq] at hx
    obtain⟨rfl,rfl⟩:=hx
    exact a r' hs hr'
   ·rename_i hs
    simp only[Rs.ok.injEq] at hx
    obtain⟨rfl,rfl⟩:=hx
    exact b r' hs hr'
  ·intro z' r' hx hr'
   unfold take at hx
   split at hx<;>cases hx
 apply ja (un:=0) Pr.tabOk Pr.mixed Ps.fn41 (nb rfl)
 apply qb (mk:=Pr.tab)
 intro _ _ _ _ _ _ _ _ _ _ _ _ _ _ _ _ _ _ _ _ _ _ _ _ _ not _ _ _ G
 have hnot:=G.not2
 generalize hP:P0 r=S0 at *
 unfold P0 at *
 subst hP
 cbv
 refine G.n' rfl (G.c' (hask _ (fun r' hs hr'=>?_) (fun r' hs hr'=>?_)))
 ·have hgo:=hok r' hs hr'
  cbv
  rw[hnot]
  cbv
  exact hgo
 ·have hgo:=hwr z r' hs hr'
  cbv
  rw[hnot]
  cbv
  exact hgo
theorem renP{o:Nat}{l:List AV}(hl:renL (AM.one o 0) noh l=l):renL (AM.one o 0) noh (.ptr o 0::l)= .ptr 0 0::l:=by
 simp only[renL,AV.ren,show AM.one o 0 o=some 0 from vo.2 ⟨rfl,rfl⟩,hl]
theorem yb0{t:List Tk}(ht:Toks t){z:Nat}(s:List UInt8)(l:List (List UInt8))(hl:l.length≤1000){S:St}{o:Nat}(h:At t z (S.row o))(ho:o<S.next){K:Out→St→Prop}
 (hok:∀ a z' r',take t s l z= .ok a z'→At t z' r'→K (.ret (.bool a)) (S.set o r')) (hwr:∀ z' r',take t s l z= .wrong→At t z' r'→K (.panic vg) (S.set o r')) :
 jb Tryz.prog (Pr.tab real) 22 [.ptr o 0,.slice 9 (strs (s::l)) .exact] S K:=
 jv (renP rfl) ycv h ho (zct ht s l hl (fun _=>jct ht) z _ h) hok hwr
theorem qk{t:List Tk}(ht:Toks t){z:Nat}{s:List UInt8}{S:St}{o:Nat}(h:At t z (S.row o))(ho:o<S.next){K:Out→St→Prop}
 (hyes:∀ r',sees t z s=true→At t (z+1) r'→K (.ret (.bool true)) (S.set o r')) (hno:∀ r',sees t z s=false→At t z r'→K (.ret (.bool false)) (S.set o r')) :
 jb Tryz.prog (Pr.tab real) 22 [.ptr o 0,.slice 9 [.str s] .exact] S K:=by
 refine yb0 ht s [] (by simp) h ho ?_ ?_
 ·intro x z' r' hx hr'
  unfold take at hx
  split at hx
  ·rename_i hs
   simp only[needs,Rs.bind,Rs.ok.injEq] at hx
   obtain⟨rfl,rfl⟩:=hx
   exact hyes r' hs hr'
  ·rename_i hs
   simp only[Rs.ok.injEq] at hx
   obtain⟨rfl,rfl⟩:=hx
   exact hno r' hs hr'
 ·intro z' r' hx hr'
  unfold take at hx
  split at hx<;>cases hx
theorem vl{t:List Tk}(ht:Toks t){z:Nat}{s:List UInt8}{S:St}{o:Nat}(h:At t z (S.row o))(ho:o<S.next){K:Out→St→Prop}
 (hyes:∀ r',sees t z s=true→At t (z+1) r'→K (.ret (.tup [])) (S.set o r')) (hno:∀ z' r',sees t z s=false→At t z' r'→K (.panic vg) (S.set o r')) :
 jb Tryz.prog (Pr.tab real) 41 [.ptr o 0,.str s] S K:=by
 have hl:jb Tryz.prog (Pr.tab real) 41 [.ptr 0 0,.str s] (P0 (S.row o)) (Post t (need t s z) fun _=>AV.tup []):=by
  refine jct ht s z (S.row o) _ h (fun r' hs hr'=>?_) (fun z' r' hs hr'=>?_)
  ·refine⟨z+1,?_,hr',Nat.le_refl 1⟩
   unfold need;rw[hs]
   exact⟨.ret _ _ (Sub.refl _ _),rfl⟩
  ·refine⟨z',?_,hr',Nat.le_refl 1⟩
   unfold need;rw[hs]
   exact rfl
 refine jv (renP rfl) (fun _ _ _=>rfl) h ho hl ?_ ?_
 ·intro a z' r' hx hr'
  unfold need at hx
  split at hx
  ·rename_i hs
   simp only[Rs.ok.injEq] at hx
   obtain⟨_,rfl⟩:=hx
   exact hyes r' hs hr'
  ·cases hx
 ·intro z' r' hx hr'
  unfold need at hx
  split at hx
  ·cases hx
  ·rename_i hs
   exact hno z' r' hs hr'
def xdt(l:List (List UInt8))(n i:Int):Env:=[(0,.ptr 0 0),(7,.slice 9 (strs l) .exact),(8,.int .i64 n),(9,.int .i64 i)]
theorem vd3{t:List Tk}(ht:Toks t)(l:List (List UInt8))(hl:l.length≤1000)(n:Int)(hn:n=l.length)(K:Ex→Env→St→Prop)(z:Nat)(k:Nat) :
 ∀(i:Nat) (y:Int) (r:List AV),y=i→i+k=l.length→At t z r →
  (∀ r',one t (l.drop i) z= .ok [] z→At t z r'→K (.exit 0) [(0,.ptr 0 0)] (P0 r'))→(∀ a z' r',one t (l.drop i) z= .ok a z'→At t z' r'→K .ret [(4,.str a)] (P0 r')) →
  za Tryz.prog (Pr.tab real) 19 c84 (Less K) (xdt l n y) (P0 r):=by
 induction k with
 |zero=>
  intro i y r hy hi h hK1 hK2
  have hd:l.drop i=[]:=List.drop_eq_nil_of_le (by omega)
  rw[hd] at hK1
  have hfin:=hK1 r rfl h
  apply jec
  apply xb (mk:=Pr.tab)
  intro fail need same call loop len slen arith shift cmp conv eqS ltS cat app elt byt subS subL strOf isB fit inb cut room not and eqB avs G
  have hb:cmp BinOp.lss y n=false:=by
   rw[G.cmp'];simp[vb];omega
  generalize za Tryz.prog (Pr.tab real) 19 c84 (Less K)=L at *
  generalize hK':Less K=K' at *
  clear hK1 hK2
  unfold xdt
  cbv
  refine G.n' rfl ?_
  rw[hb]
  cbv
  rw[← hK']
  exact⟨[(0,.ptr 0 0)],.cons rfl (.nil _),hfin⟩
 |succ k ih=>
  intro i y r hy hi h hK1 hK2
  have hlt:i<l.length:=by omega
  have hd:l.drop i=l[i]::l.drop (i+1):=List.drop_eq_getElem_cons hlt
  obtain⟨s,hs⟩:∃ s,l[i]=s:=⟨_,rfl⟩
  rw[hs] at hd
  rw[hd] at hK1 hK2
  have ho:one t (s::l.drop (i+1)) z=match sees t z s with
   |true=> .ok s (z+1)
   |false=>one t (l.drop (i+1)) z:=rfl
  rw[ho] at hK1 hK2
  have hask:=fun K a b=>qk ht (s:=s) (S:=P0 r) (o:=0) h Nat.one_pos (K:=K) a b
  have hnext:∀(y':Int) r',y'=(i+1:Nat)→sees t z s=false→At t z r'→za Tryz.prog (Pr.tab real) 19 c84 (Less K) (xdt l n y') (P0 r'):=by
   intro y' r' hy' hs hr'
   rw[hs] at hK1 hK2
   exact ih (i+1) y' r' hy' (by omega) hr' hK1 hK2
  have hgot:∀ r',sees t z s=true→At t (z+1) r'→K .ret [(4,.str s)] (P0 r'):=by
   intro r' hs hr'
   rw[hs] at hK2
   exact hK2 s (z+1) r' rfl hr'
  apply jec
  apply xb (mk:=Pr.tab)
  intro _ _ _ _ _ len _ arith _ cmp _ _ _ _ _ elt _ _ _ _ _ _ inb _ _ _ _ _ _ G
  have hb:cmp BinOp.lss y n=true:=by
   rw[G.cmp'];simp[vb];omega
  have hin:inb y (len (strs l))=true:=by
   rw[G.inb',G.len'];simp[strs];omega
  have hel:elt (strs l) y= .str s:=by
   rw[G.elt',← hs];simp only[strs];rw[show y.toNat=i by omega];simp[hlt]
  obtain⟨y',hy'⟩:∃ y':Int,y'=(i+1:Nat):=⟨_,rfl⟩
  have hadd:arith BinOp.add IntKind.i64 y 1=y':=by
   rw[G.arith',hy'];rw[hy];exact wrap_i64 _ (by omega) (by omega)
  have hnext:=fun r'=>hnext y' r' hy'
  generalize hL:za Tryz.prog (Pr.tab real) 19 c84 (Less K)=L at *
  generalize hK':Less K=K' at *
  unfold xdt at *
  generalize strs l=ws at *
  unfold P0 at hask
  clear hK1 hK2 ih hd hy' hy ho hs
  unfold P0
  cbv
  refine G.n' rfl ?_
  rw[hb]
  cbv
  refine G.n' hin ?_
  rw[hel]
  cbv
  refine G.n' rfl (G.c' (hask _ (fun r' hs hr'=>?_) (fun r' hs hr'=>?_)))
  ·have hgo:=hgot r' hs hr'
   cbv
   rw[← hK']
   exact⟨[(4,.str s)],.cons rfl (.nil _),hgo⟩
  ·have hgo:=hnext r' hs hr'
   cbv
   refine G.n' rfl ?_
   rw[hadd]
   rw[← hL] at hgo ⊢
   exact za.weak (.cons rfl (.cons rfl (.cons rfl (.cons rfl (.nil _))))) hgo
theorem vel{t:List Tk}(ht:Toks t)(l:List (List UInt8))(hl:l.length≤1000)(z:Nat)(r:List AV)(h:At t z r) :
 jb Tryz.prog (Pr.tab real) 84 [.ptr 0 0,.slice 9 (strs l) .exact] (P0 r) (Post t (one t l z) AV.str):=by
 obtain⟨n,hn⟩:∃ n:Int,n=l.length:=⟨_,rfl⟩
 have hloop:=fun K=>vd3 ht l hl n hn K z l.length 0 0 r rfl (by omega) h
 rw[List.drop_zero] at hloop
 have hok:∀ a z' r' S',one t l z= .ok a z'→At t z' r'→S'=P0 r'→Post t (one t l z) AV.str (.ret (.str a)) S':=by
  rintro a z' r' S' hq hr' rfl
  rw[hq]
  exact⟨z',⟨.ret _ _ (Sub.refl _ _),rfl⟩,hr',Nat.le_refl 1⟩
 generalize Post t (one t l z) AV.str=K0 at *
 generalize one t l z=rr at *
 apply ja (un:=0) Pr.tabOk Pr.mixed Ps.fn84 (nb rfl)
 apply qb (mk:=Pr.tab)
 intro _ _ _ _ _ len _ _ _ _ _ _ _ _ _ _ _ _ _ _ _ _ _ _ _ _ _ _ _ G
 have hlen:len (strs l)=n:=by rw[G.len',hn];simp[strs]
 unfold xdt at hloop
 generalize strs l=ws at *
 unfold P0 at hok hloop
 unfold P0
 cbv
 rw[hlen]
 refine G.l' ?_
 change za Tryz.prog (Pr.tab real) 19 c84 _ _ _
 refine za.relax (za.weak (.cons rfl (.cons rfl (.cons rfl (.cons rfl (.nil _))))) (hloop _ (fun r' hq hr'=>?_) (fun a z' r' hq hr'=>?_)))
 ·have hgo:=hok [] z r' _ hq hr' rfl
  cbv
  exact hgo
 ·have hgo:=hok a z' r' _ hq hr' rfl
  cbv
  exact hgo
theorem ja0(t:List Tk):∀(l:List (List UInt8)) (z:Nat),one t l z≠ .wrong
 | [],z=>by simp[one]
 |s::l,z=>by
  unfold one
  split
  ·simp
  ·exact ja0 t l z
theorem jai{t:List Tk}(ht:Toks t){z:Nat}(l:List (List UInt8))(hl:l.length≤1000){S:St}{o:Nat}(h:At t z (S.row o))(ho:o<S.next){K:Out→St→Prop}
 (hok:∀ a z' r',one t l z= .ok a z'→At t z' r'→K (.ret (.str a)) (S.set o r')) :
 jb Tryz.prog (Pr.tab real) 84 [.ptr o 0,.slice 9 (strs l) .exact] S K:=
 jv (renP rfl) vce h ho (vel ht l hl z _ h) hok (fun z' r' hq=>absurd hq (ja0 t l z))
theorem opens_loop{t:List Tk}(ht:Toks t)(K:Ex→Env→St→Prop)(z:Nat)(r:List AV)(h:At t z r)(k:Nat) :
 ∀(i:Nat) (y:Int),y=i→t.length≤z+i+k→i≤600→(∀(y':Int) (j:Nat),y'=j→j=i+opens t k (z+i)→j≤1000→K (.exit 0) [(0,.ptr 0 0),(3,.int .i64 y')] (P0 r)) →
  za Tryz.prog (Pr.tab real) 16 c80 (Less K) [(0,.ptr 0 0),(3,.int .i64 y)] (P0 r):=by
 have htl:=ht.len
 have hzl:=h.2
 induction k with
 |zero=>
  intro i y hy hi hib hK
  have hs:sees t (z+i) g_par=false:=by unfold sees;rw[List.getElem?_eq_none (by omega)]
  have hfin:=hK y i hy (by simp[opens]) (by omega)
  have hask:=fun K hK=>qa1 t ht.len z i y hy (by omega) g_par r h K hK
  rw[hs] at hask
  apply xdd
  apply xb (mk:=Pr.tab)
  intro fail need same call loop len slen arith shift cmp conv eqS ltS cat app elt byt subS subL strOf isB fit inb cut room not and eqB avs G
  generalize za Tryz.prog (Pr.tab real) 16 c80 (Less K)=L at *
  generalize hK':Less K=K' at *
  clear hK hy
  unfold P0 at *
  cbv
  refine G.c' (hask _ ?_)
  cbv
  rw[← hK']
  exact⟨[(0,.ptr 0 0),(3,.int .i64 y)],.cons rfl (.cons rfl (.nil _)),hfin⟩
 |succ k ih=>
  intro i y hy hi hib hK
  have hop:opens t (k+1) (z+i)=match sees t (z+i) g_par with
   |true=>opens t k (z+i+1)+1
   |false=>0:=rfl
  rw[hop] at hK
  have hask:=fun K hK=>qa1 t ht.len z i y hy (by omega) g_par r h K hK
  cases hb:sees t (z+i) g_par with
  |false=>
   rw[hb] at hask hK
   have hfin:=hK y i hy rfl (by omega)
   apply xdd
   apply xb (mk:=Pr.tab)
   intro fail need same call loop len slen arith shift cmp conv eqS ltS cat app elt byt subS subL strOf isB fit inb cut room not and eqB avs G
   generalize za Tryz.prog (Pr.tab real) 16 c80 (Less K)=L at *
   generalize hK':Less K=K' at *
   clear hK hy ih
   unfold P0 at *
   cbv
   refine G.c' (hask _ ?_)
   cbv
   rw[← hK']
   exact⟨[(0,.ptr 0 0),(3,.int .i64 y)],.cons rfl (.cons rfl (.nil _)),hfin⟩
  |true=>
   rw[hb] at hask hK
   have hlt:z+i<t.length:=by
    unfold sees at hb
    rcases Nat.lt_or_ge (z+i) t.length with w|w
    ·exact w
    ·rw[List.getElem?_eq_none w] at hb;cases hb
   have hnext:∀ y':Int,y'=(i+1:Nat)→za Tryz.prog (Pr.tab real) 16 c80 (Less K) [(0,.ptr 0 0),(3,.int .i64 y')] (P0 r):=by
    intro y' hy'
    refine ih (i+1) y' hy' (by omega) (by omega) ?_
    intro y2 j h1 h2 h3
    refine hK y2 j h1 ?_ h3
    simp only[]
    rw[show z+i+1=z+(i+1) by omega]
    omega
   obtain⟨y',hy'⟩:∃ y':Int,y'=(i+1:Nat):=⟨_,rfl⟩
   have hnext:=hnext y' hy'
   apply xdd
   apply xb (mk:=Pr.tab)
   intro _ _ _ _ _ _ _ arith _ _ _ _ _ _ _ _ _ _ _ _ _ _ _ _ _ _ _ _ _ G
   have hadd:arith BinOp.add IntKind.i64 y 1=y':=by
    rw[G.arith',hy'];rw[hy];exact wrap_i64 _ (by omega) (by omega)
   generalize hL:za Tryz.prog (Pr.tab real) 16 c80 (Less K)=L at *
   generalize hK':Less K=K' at *
   clear hK hy ih hy'
   unfold P0 at *
   cbv
   refine G.c' (hask _ ?_)
   cbv
   refine G.n' rfl ?_
   rw[hadd]
   rw[← hL] at hnext ⊢
   exact za.weak (.cons rfl (.cons rfl (.nil _))) hnext
theorem yby{t:List Tk}(ht:Toks t)(z:Nat)(r:List AV)(h:At t z r)(K:Out→St→Prop)(hK:K (.ret (.bool (vi t z))) (P0 r)) :
 jb Tryz.prog (Pr.tab real) 80 [.ptr 0 0] (P0 r) K:=by
 have htl:=ht.len
 have hloop:=fun K=>opens_loop ht K z r h t.length 0 0 rfl (by omega) (by omega)
 have hask:=fun(on:Nat) (y:Int) (hy:y=on) (hon:on≤1000) K hK=>qa1 t ht.len z on y hy hon zn r h K hK
 have hob:vi t z=(decide (0<opens t t.length z) && sees t (z+opens t t.length z) zn):=rfl
 rw[hob] at hK
 simp only[Nat.add_zero,Nat.zero_add] at hloop
 apply ja (un:=0) Pr.tabOk Pr.mixed Ps.fn80 (nb rfl)
 apply qb (mk:=Pr.tab)
 intro _ _ _ _ _ _ _ _ _ cmp _ _ _ _ _ _ _ _ _ _ _ _ _ _ _ _ _ _ _ G
 have hgt:∀(y:Int) (j:Nat),y=j→cmp BinOp.gtr y 0=decide (0<j):=fun y j hy=>by
  rw[G.cmp'];simp only[vb];rw[Bool.eq_iff_iff];simp only[decide_eq_true_eq];omega
 generalize opens t t.length z=j0 at *
 unfold P0 at *
 cbv
 refine G.l' ?_
 change za Tryz.prog (Pr.tab real) 16 c80 _ _ _
 refine za.relax (za.weak (.cons rfl (.cons rfl (.nil _))) (hloop _ (fun y' j hy' hj hjb=>?_)))
 subst hj
 have hg:=hgt y' j hy'
 have hask:=hask j y' hy' hjb
 generalize decide (0<j)=b at *
 generalize sees t (z+j) zn=b2 at *
 clear hy' hgt
 cbv
 refine G.n' rfl ?_
 rw[hg]
 cases b
 ·cbv
  exact hK
 ·cbv
  refine G.c' (hask _ ?_)
  cbv
  exact hK
theorem xcc{t:List Tk}(ht:Toks t){z:Nat}{S:St}{o:Nat}(h:At t z (S.row o))(ho:o<S.next){K:Out→St→Prop}(hK:K (.ret (.bool (vi t z))) S) :
 jb Tryz.prog (Pr.tab real) 80 [.ptr o 0] S K:=
 za1 rfl rfl h ho (yby ht z _ h _ ⟨rfl,rfl⟩) hK
end Go.AM.Ps
namespace Go.AM.Ps
open Go.Proofs W
theorem Ps.fn46:FnOk Tryz.prog 46 (fni Tryz.f46 Pr.a46):=⟨⟨Tryz.f46,Tryz.func46,rfl,rfl,rfl,by kernel_rfl⟩,by kernel_rfl⟩
theorem Ps.fn39:FnOk Tryz.prog 39 (fni Tryz.f39 Pr.a39):=⟨⟨Tryz.f39,Tryz.func39,rfl,rfl,rfl,by kernel_rfl⟩,by kernel_rfl⟩
theorem Ps.fn157:FnOk Tryz.prog 157 (fni Tryz.f157 Pr.a157):=⟨⟨Tryz.f157,Tryz.func157,rfl,rfl,rfl,by kernel_rfl⟩,by kernel_rfl⟩
theorem Ps.fn138:FnOk Tryz.prog 138 (fni Tryz.f138 Pr.a138):=⟨⟨Tryz.f138,Tryz.func138,rfl,rfl,rfl,by kernel_rfl⟩,by kernel_rfl⟩
theorem ja1{f:FuncId}{args:List AV}{K0 K:Out→St→Prop}{S:St}(h:jb Tryz.prog (Pr.tab real) f (renL (fun _=>none) (fun _=>none) args) St.nil K0)
 (hk:∀ o S0,K0 o S0→K (o.ren (fun _=>none) (fun _=>none)) S):jb Tryz.prog (Pr.tab real) f args S K:=by
 refine frame (f:=fun _=>none) (fi:=fun _=>none) (h:=fun _=>none) (hi:=fun _=>none) (S0:=St.nil) ⟨fun _ _=>⟨fun e=>(by cases e),fun e=>(by cases e)⟩,fun _ _=>⟨fun e=>(by cases e),fun e=>(by cases e)⟩,fun _ _ e=>(by cases e),fun _ _ e=>(by cases e),fun _ _ e=>(by cases e)⟩ rfl h ?_
 intro out0 S0' hk0
 have hb:back (fun _=>none) S.next St.nil.next 0=fun _=>none:=by
  funext i
  unfold back
  cases Nat.ble St.nil.next i with
  |false=>rfl
  |true=>
   cases hq:Nat.blt i (St.nil.next+0) with
   |false=>rfl
   |true=>have:i+1≤0:=nb hq;omega
 refine⟨0,S,⟨Nat.zero_le _,rfl,fun _ _ _=>rfl,?_,rfl,fun _=>rfl⟩,?_⟩
 ·intro i o e
  rw[hb] at e
  cases e
 ·rw[hb]
  exact hk _ _ hk0
theorem vcs(op:List UInt8)(e:TypeId)(cs:List AV)(m:Mode)(hm:renM (fun _=>none) m=m)(S:St)(K:Out→St→Prop)(hK:K (.ret (.agg [.str op,.str [],.int .i64 0,.slice e cs m])) S) :
 jb Tryz.prog (Pr.tab real) 46 [.str op,.slice e cs m] S K:=by
 refine jb.lift (K0:=fun o _=>o= .ret (.agg [.str op,.str [],.int .i64 0,.slice e cs m])) (by simp only[renL,AV.ren,hm]) ?_ (by rintro o S0 rfl;simp only[Out.ren,AV.ren,renL,hm];exact hK)
 apply ja (un:=0) Pr.tabOk Pr.mixed Ps.fn46 (nb rfl)
 apply qb (mk:=Pr.tab)
 intro _ _ _ _ _ _ _ _ _ _ _ _ _ _ _ _ _ _ _ _ _ _ _ _ _ _ _ _ _ G
 generalize hK':(fun(o:Out) (_:St)=>o= .ret (.agg [.str op,.str [],.int .i64 0,.slice e cs m]))=K0
 have hfin:∀ S,K0 (.ret (.agg [.str op,.str [],.int .i64 0,.slice e cs m])) S:=fun S=>by rw[← hK']
 cbv
 exact hfin _
theorem jbh(op s:List UInt8)(e:TypeId)(cs:List AV)(m:Mode)(hm:renM (fun _=>none) m=m)(S:St)(K:Out→St→Prop)(hK:K (.ret (.agg [.str op,.str s,.int .i64 0,.slice e cs m])) S) :
 jb Tryz.prog (Pr.tab real) 39 [.str op,.str s,.slice e cs m] S K:=by
 refine jb.lift (K0:=fun o _=>o= .ret (.agg [.str op,.str s,.int .i64 0,.slice e cs m])) (by simp only[renL,AV.ren,hm]) ?_ (by rintro o S0 rfl;simp only[Out.ren,AV.ren,renL,hm];exact hK)
 apply ja (un:=0) Pr.tabOk Pr.mixed Ps.fn39 (nb rfl)
 apply qb (mk:=Pr.tab)
 intro _ _ _ _ _ _ _ _ _ _ _ _ _ _ _ _ _ _ _ _ _ _ _ _ _ _ _ _ _ G
 generalize hK':(fun(o:Out) (_:St)=>o= .ret (.agg [.str op,.str s,.int .i64 0,.slice e cs m]))=K0
 have hfin:∀ S,K0 (.ret (.agg [.str op,.str s,.int .i64 0,.slice e cs m])) S:=fun S=>by rw[← hK']
 cbv
 exact hfin _
theorem jg{op:List UInt8}{e:TypeId}{cs:List AV}{m:Mode}(l:List Nd)(hcs:cs=avL l)(he:e=24∨cs=[])(hm:m=m){S:St}{K:Out→St→Prop}(hK:∀ cl,cl=avL l→K (.ret (.agg [.str op,.str [],.int .i64 0,.slice 24 cl .no])) S) :
 jb Tryz.prog (Pr.tab real) 46 [.str op,.slice e cs m] S K:=by
 refine ja1 (K0:=fun o _=>o= .ret (.agg [.str op,.str [],.int .i64 0,.slice 24 (avL l) .no])) ?_ (by rintro o S0 rfl;exact hK _ rfl)
 have hr:renL (fun _=>none) (fun _=>none) [AV.str op,.slice e cs m]=[AV.str op,.slice e cs (renM (fun _=>none) m)]:=rfl
 rw[hr]
 exact jb.sub (vcs op e cs _ (by cases m<;>rfl) St.nil _ ⟨_,.ret _ _ (xad _ op [] 0 e cs _ l hcs he),rfl⟩)
theorem vk{op s:List UInt8}{e:TypeId}{cs:List AV}{m:Mode}(l:List Nd)(hcs:cs=avL l)(he:e=24∨cs=[])(hm:m=m){S:St}{K:Out→St→Prop}(hK:∀ cl,cl=avL l→K (.ret (.agg [.str op,.str s,.int .i64 0,.slice 24 cl .no])) S) :
 jb Tryz.prog (Pr.tab real) 39 [.str op,.str s,.slice e cs m] S K:=by
 refine ja1 (K0:=fun o _=>o= .ret (.agg [.str op,.str s,.int .i64 0,.slice 24 (avL l) .no])) ?_ (by rintro o S0 rfl;exact hK _ rfl)
 have hr:renL (fun _=>none) (fun _=>none) [AV.str op,.str s,.slice e cs m]=[AV.str op,.str s,.slice e cs (renM (fun _=>none) m)]:=rfl
 rw[hr]
 exact jb.sub (jbh op s e cs _ (by cases m<;>rfl) St.nil _ ⟨_,.ret _ _ (xad _ op s 0 e cs _ l hcs he),rfl⟩)
theorem zcz(b:Bool)(x:Nd){v:AV}(hv:v=x.av){S:St}{K:Out→St→Prop}(hK:K (.ret (turned b x).av) S):jb Tryz.prog (Pr.tab real) 157 [.bool b,v] S K:=by
 subst hv
 refine jb.lift (K0:=fun o _=>o= .ret (turned b x).av) (by simp only[renL,zh];rfl) ?_ (by rintro o S0 rfl;simp only[Out.ren,zh];exact hK)
 have hnode:∀(S:St) (K:Out→St→Prop),K (.ret (node qah [x]).av) S→jb Tryz.prog (Pr.tab real) 46 [.str qah,.slice 24 [x.av] .exact] S K:=fun S K hK=>jg (op:=qah) (e:=24) (cs:=[x.av]) (m:= .exact) [x] rfl (.inl rfl) rfl (S:=S) (K:=K) fun cl hcl=>by subst hcl;exact hK
 have h1:(turned true x).av=(node qah [x]).av:=rfl
 have h0:(turned false x).av=x.av:=rfl
 obtain⟨nv,hnv⟩:∃ nv,(node qah [x]).av=nv:=⟨_,rfl⟩
 have hnv':nv= .agg [.str qah,.str [],.int .i64 0,.slice 24 [x.av] .no]:=hnv.symm
 rw[hnv] at hnode h1
 obtain⟨op,s,n,l⟩:=x
 rw[show (Nd.mk op s n l).av= .agg [.str op,.str s,.int .i64 n,.slice 24 (avL l) .no] from rfl] at *
 generalize avL l=cl at *
 apply ja (un:=0) Pr.tabOk Pr.mixed Ps.fn157 (nb rfl)
 apply qb (mk:=Pr.tab)
 intro _ _ _ _ _ _ _ _ _ _ _ _ _ _ _ _ _ _ _ _ _ _ _ _ _ _ _ _ _ G
 cases b
 ·rw[h0]
  generalize hK':(fun(o:Out) (_:St)=>o= .ret (.agg [.str op,.str s,.int .i64 n,.slice 24 cl .no]))=K0
  have hfin:∀ S,K0 (.ret (.agg [.str op,.str s,.int .i64 n,.slice 24 cl .no])) S:=fun S=>by rw[← hK']
  cbv
  exact hfin _
 ·rw[h1]
  generalize hK':(fun(o:Out) (_:St)=>o= .ret nv)=K0
  have hfin:∀ S,K0 (.ret nv) S:=fun S=>by rw[← hK']
  clear hK' h0 h1 hnv
  cbv
  refine G.n' rfl ?_
  refine G.c' (hnode _ _ ?_)
  rw[hnv'] at hfin ⊢
  cbv
  exact hfin _
theorem at_turned(b:Bool){op s:List UInt8}{k:Int}{cs:List AV}(l:List Nd)(hcs:cs=avL l){S:St}{K:Out→St→Prop}
 (hK:∀ op' s' k' l' cl,turned b (.mk op s k l)= .mk op' s' k' l'→cl=avL l'→K (.ret (.agg [.str op',.str s',.int .i64 k',.slice 24 cl .no])) S) :
 jb Tryz.prog (Pr.tab real) 157 [.bool b,.agg [.str op,.str s,.int .i64 k,.slice 24 cs .no]] S K:=by
 subst hcs
 refine zcz b (.mk op s k l) rfl ?_
 generalize hq:turned b (.mk op s k l)=y
 obtain⟨op',s',k',l'⟩:=y
 exact hK op' s' k' l' _ hq rfl
theorem vco(s:List UInt8)(S:St)(K:Out→St→Prop)(hK:K (.ret (.int .i64 (vd s))) S):jb Tryz.prog (Pr.tab real) 138 [.str s] S K:=by
 refine jb.lift (K0:=fun o _=>o= .ret (.int .i64 (vd s))) rfl ?_ (by rintro o S0 rfl;exact hK)
 apply ja (un:=0) Pr.tabOk Pr.mixed Ps.fn138 (nb rfl)
 apply qb (mk:=Pr.tab)
 intro _ _ _ _ _ _ _ _ _ _ _ eqS _ _ _ _ _ _ _ _ _ _ _ _ _ _ _ _ _ G
 have heq:∀ a,eqS s a=(s == a):=fun a=>by rw[G.eqS']
 have hK0:∀ v:Int,vd s=v→∀ S,(fun(o:Out) (_:St)=>o= .ret (.int .i64 (vd s))) (.ret (.int .i64 v)) S:=fun v h S=>by rw[h]
 generalize (fun(o:Out) (_:St)=>o= .ret (.int .i64 (vd s)))=K0 at *
 unfold vd at hK0
 have e1:=heq k_or
 have e2:=heq xaj
 have e3:=heq xac
 have e4:=heq yj
 have e5:=heq xas
 have e6:=heq g_star
 have e7:=heq vp
 generalize (s == k_or)=b1 at *
 generalize (s == xaj)=b2 at *
 generalize (s == xac)=b3 at *
 generalize (s == yj)=b4 at *
 generalize (s == xas)=b5 at *
 generalize (s == g_star)=b6 at *
 generalize (s == vp)=b7 at *
 clear heq
 cbv
 rw[e1]
 cases b1
 rotate_left
 ·cbv
  exact hK0 _ rfl _
 cbv
 rw[e2]
 cases b2
 rotate_left
 ·cbv
  exact hK0 _ rfl _
 cbv
 rw[e3]
 cases b3
 rotate_left
 ·cbv
  exact hK0 _ rfl _
 cbv
 rw[e4]
 cases b4
 rotate_left
 ·cbv
  exact hK0 _ rfl _
 cbv
 rw[e5]
 cases b5
 rotate_left
 ·cbv
  exact hK0 _ rfl _
 cbv
 rw[e6]
 cases b6
 rotate_left
 ·cbv
  exact hK0 _ rfl _
 cbv
 rw[e7]
 cases b7
 rotate_left
 ·cbv
  exact hK0 _ rfl _
 cbv
 exact hK0 _ rfl _
end Go.AM.Ps
namespace Go.AM.Ps
open Go.Proofs W
theorem Ps.fn43:FnOk Tryz.prog 43 (fni Tryz.f43 Pr.a43):=⟨⟨Tryz.f43,Tryz.func43,rfl,rfl,rfl,by kernel_rfl⟩,by kernel_rfl⟩
theorem Ps.fn75:FnOk Tryz.prog 75 (fni Tryz.f75 Pr.a75):=⟨⟨Tryz.f75,Tryz.func75,rfl,rfl,rfl,by kernel_rfl⟩,by kernel_rfl⟩
theorem Ps.fn111:FnOk Tryz.prog 111 (fni Tryz.f111 Pr.a111):=⟨⟨Tryz.f111,Tryz.func111,rfl,rfl,rfl,by kernel_rfl⟩,by kernel_rfl⟩
theorem Ps.fn135:FnOk Tryz.prog 135 (fni Tryz.f135 Pr.a135):=⟨⟨Tryz.f135,Tryz.func135,rfl,rfl,rfl,by kernel_rfl⟩,by kernel_rfl⟩
def Fn(t:List Tk)(f:FuncId)(args:List AV)(r:Nat→Rs Nd):Prop:=
 ∀(z:Nat) (S:St) (o:Nat) (K:Out→St→Prop),At t z (S.row o)→o<S.next→(r z= .fuel→False) →
  (∀ op s k l cl z' r',r z= .ok (.mk op s k l) z'→cl=avL l→At t z' r'→K (.ret (.agg [.str op,.str s,.int .i64 k,.slice 24 cl .no])) (S.set o r')) →
  (∀ z' r',r z= .wrong→At t z' r'→K (.panic vg) (S.set o r'))→jb Tryz.prog (Pr.tab real) f (.ptr o 0::args) S K
def FnL(t:List Tk)(f:FuncId)(args:List AV)(r:Nat→Rs (List Nd)):Prop:=
 ∀(z:Nat) (S:St) (o:Nat) (K:Out→St→Prop),At t z (S.row o)→o<S.next→(r z= .fuel→False) →
  (∀ l cl z' r',r z= .ok l z'→cl=avL l→At t z' r'→K (.ret (.slice 24 cl .no)) (S.set o r')) →
  (∀ z' r',r z= .wrong→At t z' r'→K (.panic vg) (S.set o r'))→jb Tryz.prog (Pr.tab real) f (.ptr o 0::args) S K
theorem vac(t:List Tk)(r:Rs Nd)(op s:List UInt8)(k:Int)(e:TypeId)(cs:List AV)(m:Mode)(l:List Nd)(z':Nat)(S':St)(hr:r= .ok (.mk op s k l) z')(hcs:cs=avL l)(he:e=24∨cs=[])(h:At t z' (S'.row 0))(hn:1≤S'.next) :
 Post t r Nd.av (.ret (.agg [.str op,.str s,.int .i64 k,.slice e cs m])) S':=by
 rw[hr]
 exact⟨z',⟨.ret _ _ (xad _ op s k e cs m l hcs he),rfl⟩,h,hn⟩
theorem qm{α:Type}(t:List Tk)(r:Rs α)(av:α→AV)(z':Nat)(S':St)(hr:r= .wrong)(h:At t z' (S'.row 0))(hn:1≤S'.next):Post t r av (.panic (.iface 47 (.agg []))) S':=by
 rw[hr]
 exact⟨z',rfl,h,hn⟩
theorem finL(t:List Tk)(r:Rs (List Nd))(e:TypeId)(cs:List AV)(m:Mode)(l:List Nd)(z':Nat)(S':St)(hr:r= .ok l z')(hcs:cs=avL l)(he:e=24∨cs=[])(h:At t z' (S'.row 0))(hn:1≤S'.next) :
 Post t r lav (.ret (.slice e cs m)) S':=by
 rw[hr]
 refine⟨z',⟨.ret _ _ ?_,rfl⟩,h,hn⟩
 unfold lav
 rw[← hcs]
 rcases he with rfl|rfl
 ·exact xab _ _ _ _
 ·exact xak _ _ _ _
theorem xae{t:List Tk}{f:FuncId}{args:List AV}{r:Nat→Rs Nd}(hargs:∀ o,renL (AM.one o 0) noh args=args)
 (hc:∀ z rw',At t z rw'→(r z= .fuel→False)→jb Tryz.prog (Pr.tab real) f (.ptr 0 0::args) (P0 rw') (Post t (r z) Nd.av)):Fn t f args r:=by
 intro z S o K h ho hf hok hwr
 refine jv (renP (hargs o)) (fun a f h=>zh f h a) h ho (hc z _ h hf) (fun a z' r' hq hr'=>?_) hwr
 obtain⟨op,s,k,l⟩:=a
 exact hok op s k l _ z' r' hq rfl hr'
theorem zef{t:List Tk}{f:FuncId}{args:List AV}{r:Nat→Rs (List Nd)}(hargs:∀ o,renL (AM.one o 0) noh args=args)
 (hc:∀ z rw',At t z rw'→(r z= .fuel→False)→jb Tryz.prog (Pr.tab real) f (.ptr 0 0::args) (P0 rw') (Post t (r z) lav)):FnL t f args r:=by
 intro z S o K h ho hf hok hwr
 refine jv (renP (hargs o)) (fun a f h=>jas f h a) h ho (hc z _ h hf) (fun a z' r' hq hr'=>hok a _ z' r' hq rfl hr') hwr
noncomputable def c43:Code:=(fni Tryz.f43 Pr.a43).loop 0
theorem Ps.c43:qf 18 Pr.a43 c43=true:=by kernel_rfl
theorem qbq(K:Ex→Env→St→Prop)(env:Env)(S:St)(h:xg (pAlg Tryz.prog (Pr.tab real) 18) (Pr.tab real) Pr.a43 0 c43 (andThen (za Tryz.prog (Pr.tab real) 18 c43 K) K) env S):za Tryz.prog (Pr.tab real) 18 c43 K env S:=
 vc Pr.tabOk Pr.mixed Ps.c43 h
inductive Grows:Mode→List AV→List Int→Prop where
 |fresh (v:AV):Grows .exact [v] []
 |own (cs:List AV) (n:Int) (h:n=cs.length):Grows (.own 0) cs [n]
def jbo(fid:FuncId)(cs:List AV)(m:Mode):Env:=[(0,.ptr 0 0),(1,.func fid [.ptr 0 0] []),(5,.slice 24 cs m)]
def P1(r:List AV)(caps:List Int):St:=⟨[(0,r)],1,caps⟩
theorem qdp{t:List Tk}(ht:Toks t){fid:FuncId}{part:Nat→Rs Nd}(hp:Fn t fid [] part)(K:Ex→Env→St→Prop)(n:Nat) :
 ∀(acc:List Nd) (cs:List AV) (m:Mode) (caps:List Int) (z:Nat) (r:List AV),cs=avL acc→Grows m cs caps→acc.length+n≤2000000000→At t z r→(listMore t part n acc z= .fuel→False) →
  (∀ l cl m' caps' z' r',listMore t part n acc z= .ok l z'→cl=avL l→At t z' r'→K (.exit 0) [(5,.slice 24 cl m')] (P1 r' caps')) →
  (∀ z' r' caps',listMore t part n acc z= .wrong→At t z' r'→K (.panic vg) [] (P1 r' caps')) →
  za Tryz.prog (Pr.tab real) 18 c43 (Less K) (jbo fid cs m) (P1 r caps):=by
 induction n with
 |zero=>intro acc cs m caps z r _ _ _ _ hf;exact(hf rfl).elim
 |succ n ih=>
  intro acc cs m caps z r hcs hg hal h hf hK1 hK2
  have hlm:listMore t part (n+1) acc z=match sees t z g_comma with
   |true=>(part (z+1)).bind fun x z=>listMore t part n (acc++[x]) z
   |false=> .ok acc z:=rfl
  rw[hlm] at hf hK1 hK2
  have hask:=fun K a b=>qk ht (s:=g_comma) (S:=P1 r caps) (o:=0) h Nat.one_pos (K:=K) a b
  cases hb:sees t z g_comma with
  |false=>
   rw[hb] at hK1 hask
   have hfin:=fun r' hr'=>hK1 acc cs m caps z r' rfl hcs hr'
   apply qbq
   apply xb (mk:=Pr.tab)
   intro fail need same call loop len slen arith shift cmp conv eqS ltS cat app elt byt subS subL strOf isB fit inb cut room not and eqB avs G
   generalize za Tryz.prog (Pr.tab real) 18 c43 (Less K)=L at *
   generalize hK':Less K=K' at *
   clear hK1 hK2 ih
   unfold jbo P1 at *
   cbv
   refine G.n' rfl (G.c' (hask _ (fun r' hs hr'=>nomatch hs) (fun r' hs hr'=>?_)))
   have hgo:=hfin r' hr'
   cbv
   rw[← hK']
   exact⟨[(5,.slice 24 cs m)],.cons rfl (.nil _),hgo⟩
  |true=>
   rw[hb] at hK1 hK2 hf hask
   have hpart:=fun(S:St) (o:Nat) K hz ho a b=>hp (z+1) S o K hz ho (fun q=>hf (by show (part (z+1)).bind _=_;rw[q];rfl)) a b
   have hnext:∀ op s k l z' r' cs' m' caps',part (z+1)= .ok (.mk op s k l) z'→cs'=avL (acc++[.mk op s k l])→Grows m' cs' caps'→At t z' r'→za Tryz.prog (Pr.tab real) 18 c43 (Less K) (jbo fid cs' m') (P1 r' caps'):=by
    intro op s k l z' r' cs' m' caps' hq hcs' hg' hr'
    rw[hq] at hK1 hK2 hf
    refine ih (acc++[Nd.mk op s k l]) cs' m' caps' z' r' hcs' hg' (by simp;omega) hr' hf hK1 hK2
   have hbad:∀ z' r' caps',part (z+1)= .wrong→At t z' r'→K (.panic vg) [] (P1 r' caps'):=by
    intro z' r' caps' hq hr'
    rw[hq] at hK2
    exact hK2 z' r' caps' rfl hr'
   have hlen:cs.length≤2000000000:=by rw[hcs,xd,List.length_map];omega
   have happ':∀ op s k l cl,cl=avL l→cs++[.agg [.str op,.str s,.int .i64 k,.slice 24 cl .no]]=avL (acc++[.mk op s k l]):=by
    intro op s k l cl hcl
    rw[hcs,hcl,xd acc,xd (acc++_),List.map_append];rfl
   apply qbq
   apply xb (mk:=Pr.tab)
   intro _ _ _ _ _ len _ _ _ cmp _ _ _ _ app _ _ _ _ _ _ _ _ _ room _ _ _ _ G
   have hX:∀ op s k l cl,cl=avL l→∃(cc:List AV) (nn:Int),app cs [.agg [.str op,.str s,.int .i64 k,.slice 24 cl .no]]=cc∧room (len cc) 64=true∧len cc=nn∧cc=avL (acc++[.mk op s k l])∧Grows (.own 0) cc [nn]:=by
    intro op s k l cl hcl
    refine⟨_,_,rfl,?_,rfl,?_,?_⟩
    ·rw[G.app',G.room',G.len'];simp;omega
    ·rw[G.app'];exact happ' op s k l cl hcl
    ·rw[G.app',G.len'];exact .own _ _ rfl
   have h01:∀ x,cmp BinOp.lss 0 (len [x])=true:=fun x=>by rw[G.cmp',G.len'];rfl
   have heqc:∀ n2:Int,n2=cs.length→cmp BinOp.eql n2 (len cs)=true:=fun n2 h=>by rw[G.cmp',G.len',h];simp[vb]
   generalize hL:za Tryz.prog (Pr.tab real) 18 c43 (Less K)=L at *
   generalize hK':Less K=K' at *
   clear hK1 hK2 ih hlm
   unfold jbo P1 at *
   cases hg with
   |fresh v=>
    cbv
    refine G.n' rfl (G.c' (hask _ (fun r' hs hr'=>?_) (fun r' hs hr'=>nomatch hs)))
    cbv
    refine G.c' (hpart _ 0 _ hr' Nat.one_pos (fun op s k l cl z' r2 hq hcl hr2=>?_) (fun z' r2 hq hr2=>?_))
    ·obtain⟨cc,nn,h1,h2,h3,h4,h5⟩:=hX op s k l cl hcl
     have hgo:=hnext op s k l z' r2 _ _ _ hq h4 h5 hr2
     have h6:=h01 (AV.agg [.str op,.str s,.int .i64 k,.slice 24 cl .no])
     clear hX hnext hbad hpart hask
     cbv
     refine G.n' rfl ?_
     rw[h1]
     refine G.n' h2 (G.n' h6 ?_)
     rw[h3,← hL] at *
     exact za.weak (.cons rfl (.cons rfl (.cons rfl (.nil _)))) hgo
    ·have hgo:=fun c=>hbad z' r2 c hq hr2
     cbv
     rw[← hK']
     exact⟨[],.nil _,hgo _⟩
   |own cs n2 hn2=>
    have hq2:=heqc n2 hn2
    cbv
    refine G.n' rfl (G.c' (hask _ (fun r' hs hr'=>?_) (fun r' hs hr'=>nomatch hs)))
    cbv
    refine G.c' (hpart _ 0 _ hr' Nat.one_pos (fun op s k l cl z' r2 hq hcl hr2=>?_) (fun z' r2 hq hr2=>?_))
    ·obtain⟨cc,nn,h1,h2,h3,h4,h5⟩:=hX op s k l cl hcl
     have hgo:=hnext op s k l z' r2 _ _ _ hq h4 h5 hr2
     have h6:=h01 (AV.agg [.str op,.str s,.int .i64 k,.slice 24 cl .no])
     clear hX hnext hbad hpart hask
     cbv
     refine G.n' rfl ?_
     rw[h1]
     refine G.n' h2 (G.n' hq2 ?_)
     rw[h3,← hL] at *
     exact za.weak (.cons rfl (.cons rfl (.cons rfl (.nil _)))) hgo
    ·have hgo:=fun c=>hbad z' r2 c hq hr2
     cbv
     rw[← hK']
     exact⟨[],.nil _,hgo _⟩
theorem yd6{t:List Tk}(ht:Toks t){fid:FuncId}{part:Nat→Rs Nd}(hp:Fn t fid [] part)(n:Nat)(hn:n≤1000000000)(z:Nat)(r:List AV)(h:At t z r)(hf:vf t n part z= .fuel→False) :
 jb Tryz.prog (Pr.tab real) 43 [.ptr 0 0,.func fid [.ptr 0 0] []] (P0 r) (Post t (vf t n part z) lav):=by
 have hlo:vf t n part z=(part z).bind fun x z=>listMore t part n [x] z:=rfl
 have hpart:=fun(S:St) (o:Nat) K hz ho a b=>hp z S o K hz ho (fun q=>hf (by rw[hlo,q];rfl)) a b
 have hbad:∀ z' S',part z= .wrong→At t z' (S'.row 0)→1≤S'.next→Post t (vf t n part z) lav (.panic (.iface 47 (.agg []))) S':=fun z' S' q h1 h2=>qm _ _ _ z' S' (by rw[hlo,q];rfl) h1 h2
 have hloop:∀ op s k l cl z' r' K,part z= .ok (.mk op s k l) z'→cl=avL l→At t z' r' →
  (∀ l cl m' caps' z' r',vf t n part z= .ok l z'→cl=avL l→At t z' r'→K (.exit 0) [(5,.slice 24 cl m')] (P1 r' caps')) →
  (∀ z' r' caps',vf t n part z= .wrong→At t z' r'→K (.panic vg) [] (P1 r' caps')) →
  za Tryz.prog (Pr.tab real) 18 c43 (Less K) (jbo fid [.agg [.str op,.str s,.int .i64 k,.slice 24 cl .no]] .exact) (P1 r' []):=by
  intro op s k l cl z' r' K hq hcl hr' hK1 hK2
  rw[hlo,hq] at hK1 hK2 hf
  exact qdp ht hp K n [.mk op s k l] _ .exact [] z' r' (by rw[hcl];rfl) (.fresh _) (by simp;omega) hr' hf hK1 hK2
 have hfin:∀ l cl m z' S',vf t n part z= .ok l z'→cl=avL l→At t z' (S'.row 0)→1≤S'.next→Post t (vf t n part z) lav (.ret (.slice 24 cl m)) S':=fun l cl m z' S' q hcl h1 h2=>finL _ _ _ _ _ l z' S' q hcl (.inl rfl) h1 h2
 have hbad2:∀ z' S',vf t n part z= .wrong→At t z' (S'.row 0)→1≤S'.next→Post t (vf t n part z) lav (.panic (.iface 47 (.agg []))) S':=fun z' S' q h1 h2=>qm _ _ _ z' S' q h1 h2
 generalize Post t (vf t n part z) lav=K0 at *
 generalize vf t n part z=lo at *
 apply ja (un:=0) Pr.tabOk Pr.mixed Ps.fn43 (nb rfl)
 apply qb (mk:=Pr.tab)
 intro _ _ _ _ _ _ _ _ _ _ _ _ _ _ _ _ _ _ _ _ _ _ _ _ _ _ _ _ _ G
 unfold jbo P1 at hloop
 unfold P0
 clear hf hlo
 cbv
 refine G.c' (hpart _ 0 _ h Nat.one_pos (fun op s k l cl z' r2 hq hcl hr2=>?_) (fun z' r2 hq hr2=>?_))
 ·have hl:=fun K=>hloop op s k l cl z' r2 K hq hcl hr2
  clear hloop
  cbv
  refine G.n' rfl (G.l' ?_)
  change za Tryz.prog (Pr.tab real) 18 c43 _ _ _
  refine za.relax (za.weak (.cons rfl (.cons rfl (.cons rfl (.nil _)))) (hl _ (fun l2 cl2 m2 caps2 z2 r3 hq2 hcl2 hr3=>?_) (fun z2 r3 caps2 hq2 hr3=>?_)))
  ·have hgo:=hfin l2 cl2 m2 z2 (⟨[(0,r3)],1,caps2⟩:St) hq2 hcl2 hr3 (Nat.le_refl 1)
   cbv
   exact hgo
  ·have hgo:=hbad2 z2 (⟨[(0,r3)],1,caps2⟩:St) hq2 hr3 (Nat.le_refl 1)
   cbv
   exact hgo
 ·have hgo:=hbad z' (⟨[(0,r2)],1,[]⟩:St) hq hr2 (Nat.le_refl 1)
  cbv
  exact hgo
end Go.AM.Ps
namespace Go.AM.Ps
open Go.Proofs W
theorem Ps.fn114:FnOk Tryz.prog 114 (fni Tryz.f114 Pr.a114):=⟨⟨Tryz.f114,Tryz.func114,rfl,rfl,rfl,by kernel_rfl⟩,by kernel_rfl⟩
theorem Ps.fn110:FnOk Tryz.prog 110 (fni Tryz.f110 Pr.a110):=⟨⟨Tryz.f110,Tryz.func110,rfl,rfl,rfl,by kernel_rfl⟩,by kernel_rfl⟩
theorem ydo{t:List Tk}(ht:Toks t)(z:Nat)(r:List AV)(h:At t z r)(hf:aName qa t z= .fuel→False) :
 jb Tryz.prog (Pr.tab real) 114 [.ptr 0 0] (P0 r) (Post t (aName qa t z) Nd.av):=by
 have hfin:=fun op s k e cs m l z' S'=>vac t (aName qa t z) op s k e cs m l z' S'
 have hbad:=fun z' S'=>qm t (aName qa t z) Nd.av z' S'
 generalize Post t (aName qa t z) Nd.av=K0 at hfin hbad ⊢
 apply ja (un:=0) Pr.tabOk Pr.mixed Ps.fn114 (nb rfl)
 apply qb (mk:=Pr.tab)
 intro _ need _ _ _ _ _ _ _ _ _ _ _ _ _ _ _ _ _ _ _ _ _ _ _ _ _ _ _ G
 unfold P0
 cbv
 repeat'
  (first
    |((refine G.c' (yy ht (by assumption) (nb rfl) (fun a z' r' hs hr'=>?_) (fun z' r' hs hr'=>?_)))<;>(try cbv))
    |((refine G.c' (vk [] (by subst_vars;exact rfl) (by first|exact .inl rfl|exact .inr rfl) rfl (fun cl hcl=>?_)))<;>(try cbv)))
 all_goals first
  |exact hbad _ _ (by simp only[aName,Rs.bind,Ps.need,Ps.take,Ps.needs, *];try exact rfl) (by assumption) (nb rfl)
  |exact hfin _ _ _ _ _ _ _ _ _ (by simp only[aName,Rs.bind,Ps.need,Ps.take,Ps.needs, *];try exact rfl) (by subst_vars;exact rfl) (by first|exact .inl rfl|exact .inr rfl) (by assumption) (nb rfl)
theorem vc5{t:List Tk}(ht:Toks t)(z:Nat)(r:List AV)(h:At t z r)(hf:column qa t z= .fuel→False) :
 jb Tryz.prog (Pr.tab real) 110 [.ptr 0 0] (P0 r) (Post t (column qa t z) Nd.av):=by
 have hfin:=fun op s k e cs m l z' S'=>vac t (column qa t z) op s k e cs m l z' S'
 have hbad:=fun z' S'=>qm t (column qa t z) Nd.av z' S'
 generalize Post t (column qa t z) Nd.av=K0 at hfin hbad ⊢
 apply ja (un:=0) Pr.tabOk Pr.mixed Ps.fn110 (nb rfl)
 apply qb (mk:=Pr.tab)
 intro _ need _ _ _ _ _ _ _ _ _ _ _ _ _ _ _ _ _ _ _ _ _ _ _ _ _ _ _ G
 unfold P0
 cbv
 repeat'
  (first
    |refine G.n' rfl ?_
    |((refine G.c' (yy ht (by assumption) (nb rfl) (fun a z' r' hs hr'=>?_) (fun z' r' hs hr'=>?_)))<;>(try cbv))
    |((refine G.c' (qk ht (by assumption) (nb rfl) (fun r' hs hr'=>?_) (fun r' hs hr'=>?_)))<;>(try cbv))
    |((refine G.c' (vk [] (by subst_vars;exact rfl) (by first|exact .inl rfl|exact .inr rfl) rfl (fun cl hcl=>?_)))<;>(try cbv))
    |((refine G.c' (vk [.mk _ _ _ _] (by subst_vars;exact rfl) (by first|exact .inl rfl|exact .inr rfl) rfl (fun cl hcl=>?_)))<;>(try cbv)))
 all_goals first
  |exact hbad _ _ (by simp only[column,Rs.bind,Ps.need,Ps.take,Ps.needs, *];try exact rfl) (by assumption) (nb rfl)
  |exact hfin _ _ _ _ _ _ _ _ _ (by simp only[column,Rs.bind,Ps.need,Ps.take,Ps.needs, *];try exact rfl) (by subst_vars;exact rfl) (by first|exact .inl rfl|exact .inr rfl) (by assumption) (nb rfl)
end Go.AM.Ps
