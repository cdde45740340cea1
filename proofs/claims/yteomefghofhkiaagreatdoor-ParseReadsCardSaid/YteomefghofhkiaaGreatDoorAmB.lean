/- The abstract machine, second part: appends, stores, calls, and the regions of a text. -/
import Derived.Test.YteomefghofhkiaaGreatDoorAmA
import Derived.Maps.AppendAt
import Derived.Laws.CopyRow
import Derived.Lib.AppendStr
set_option linter.unusedSectionVars false
set_option linter.unusedVariables false
set_option linter.unusedSimpArgs false
namespace Go.AM
theorem zbc{P:Program}{T:Tab}{C:Ctx}{g:Ghost}{env:Env}{S:St}{a:Act}{w:World}(hT:TabOk P T)(h:Inv T C g env S a w)(o:Oper) :
 (yf T env S o.op).Sound P T g w o a:=by
 cases ho:o.op with
 |move x=>exact zbq h o x (.inl ho)
 |assign x=>exact zbq h o x (.inr ho)
 |pick c x y=>exact jc0 h o c x y ho
 |alloc t=>exact jcg hT h o t ho
 |box t x=>exact yde h o t x ho
 |build t ps=>exact qcg hT h o t ps ho
 |buildSlice t n ps=>exact xa9 hT h o t n ps ho
 |load t x=>exact xc0 hT h o t x ho
 |nilCheck x=>exact ybm h o x ho
 |binOp op t x y t'=>exact zcg hT h o op t t' x y ho
 |unOp op t x=>exact zc0 hT h o op t x ho
 |convert s d x=>exact jbw hT h o s d x ho
 |makeInterface t x=>exact zax h o t x ho hT
 |makeFunc f x y=>exact qbn h o f x y ho
 |typeAssert x xt t ok=>exact ja9 h o x xt t ok ho hT
 |slice t x lo hi mx=>exact vcf hT h o t x lo hi mx ho
 |fieldAddr t x f=>exact qbe hT h o t x f ho
 |indexAddr t x i=>exact ybd hT h o t x i ho
 |index t x i=>exact ycf hT h o t x i ho
 |extract x i=>exact zbw h o x i ho
 |call c=>exact vde hT h o c ho
 |_=>trivial
end Go.AM
namespace Go.AM
theorem Inv.step{T:Tab}{C:Ctx}{g g':Ghost}{env:Env}{S S':St}{a:Act}{w w':World}(h:Inv T C g env S a w)(r:WRel T g' S' w')
 (e:Ext (fun b=>C.touch b∨C.w0.heap.size≤b) g w g' w')
 (ob:∀ o b,g'.ρ o=some b→C.touch b∨C.w0.heap.size≤b) (tb:∀ k tk b,g'.τ k=some tk→tk.v.ownBlock=some b→C.touch b∨C.w0.heap.size≤b)
 (nm:∀ o b,g'.ρ o=some b→g.ρ o=some b∨S.next≤o) (nx:S.next≤S'.next):Inv T C g' env S' a w':=
 ⟨fun t=>(h.tmp t).keeps e.keeps,h.size,h.defers,r,h.ext.trans e,ob,tb,fun gl t e' hg=>(h.glob gl t e' hg).keeps e.keeps,
  fun o b q=>by
   rcases nm o b q with q|q
   ·exact h.nm o b q
   ·exact .inr (Nat.le_trans h.next q),Nat.le_trans h.next nx⟩
structure Flat (T:Tab) (w:World) (g:Ghost) (e:TypeId) (cs:List AV) (L:List Value):Prop where
 len:L.length=cs.length * T.size e
 one:∀ u ∈ L,u.oneCell'=true
 fit:∀ i,i<cs.length→Fit T e (nth cs i)
 rep:∀ i j,i<cs.length→j<T.size e→Rep T w g.flat (nth (nth cs i).cells j) (L.getD (i * T.size e+j) undef)
theorem xca{n sz i j:Nat}(hi:i<n)(hj:j<sz):i * sz+j<n * sz:=by
 have:(i+1) * sz≤n * sz:=Nat.mul_le_mul_right _ hi
 rw[Nat.succ_mul] at this
 omega
theorem Flat.append{T:Tab}{w:World}{g:Ghost}{e:TypeId}{cs ys:List AV}{L M:List Value}(h:Flat T w g e cs L)(k:Flat T w g e ys M):Flat T w g e (cs++ys) (L++M):=by
 have hn:∀ i,i<cs.length→nth (cs++ys) i=nth cs i:=by
  intro i hi;rw[nth_eq,nth_eq];simp[List.getD_eq_getElem?_getD,List.getElem?_append_left hi]
 have hm:∀ i,cs.length≤i→nth (cs++ys) i=nth ys (i-cs.length):=by
  intro i hi;rw[nth_eq,nth_eq];simp[List.getD_eq_getElem?_getD,List.getElem?_append_right hi]
 refine⟨by simp[h.len,k.len,Nat.add_mul],?_,?_,?_⟩
 ·intro u hu
  rcases List.mem_append.1 hu with hu|hu
  ·exact h.one u hu
  ·exact k.one u hu
 ·intro i hi
  by_cases hlt:i<cs.length
  ·rw[hn i hlt];exact h.fit i hlt
  ·rw[hm i (by omega)];exact k.fit _ (by simp at hi;omega)
 ·intro i j hi hj
  by_cases hlt:i<cs.length
  ·rw[hn i hlt]
   have:=xca hlt hj
   have h2:=h.rep i j hlt hj
   rw[List.getD_eq_getElem?_getD] at h2 ⊢
   rw[List.getElem?_append_left (by rw[h.len];exact this)]
   exact h2
  ·rw[hm i (by omega)]
   have hlt':i-cs.length<ys.length:=by simp at hi;omega
   have h2:=k.rep (i-cs.length) j hlt' hj
   have h3:L.length≤i * T.size e+j:=by
    rw[h.len]
    have:cs.length * T.size e≤i * T.size e:=Nat.mul_le_mul_right _ (by omega)
    omega
   rw[List.getD_eq_getElem?_getD] at h2 ⊢
   rw[List.getElem?_append_right h3,h.len]
   have:i * T.size e+j-cs.length * T.size e=(i-cs.length) * T.size e+j:=by
    rw[Nat.sub_mul]
    have:cs.length * T.size e≤i * T.size e:=Nat.mul_le_mul_right _ (by omega)
    omega
   rw[this]
   exact h2
theorem Flat.keeps{T:Tab}{w w':World}{g g':Ghost}{e:TypeId}{cs:List AV}{L:List Value}(h:Flat T w g e cs L)(k:Keeps g w g' w'):Flat T w' g' e cs L:=
 ⟨h.len,h.one,h.fit,fun i j hi hj=>(h.rep i j hi hj).keeps k.flat⟩
theorem jcn{T:Tab}{w:World}{g:Ghost}{e:TypeId}{cs:List AV}{m:Mode}{ad:Option Addr}{n cap:Nat}(hr:Rep T w g (.slice e cs m) (.slice ad n cap))(hsz:1≤T.size e) :
 n=cs.length∧∃ L,Flat T w g e cs L∧(cs≠[]→∃ b base,ad=some ⟨b,base,none⟩∧(∀ j v,L[j]? =some v→w.cell? ⟨b,base+j,none⟩=some v)∧∀ j,j<L.length→g.D b (base+j)):=by
 cases hr with
 |slice _ _ _ _ _ _ b base xs hcap hmax hm ho ha hf hc h1 hD hR=>
  have key:∀ p,p<cs.length * T.size e→p / T.size e<cs.length∧p % T.size e<T.size e∧p / T.size e * T.size e+p % T.size e=p:=by
   intro p hp
   refine⟨Nat.div_lt_of_lt_mul (by rw[Nat.mul_comm];exact hp),Nat.mod_lt _ hsz,?_⟩
   rw[Nat.mul_comm];exact Nat.div_add_mod p _
  refine⟨rfl,(List.range (cs.length * T.size e)).map fun p=>xs (p / T.size e) (p % T.size e),⟨by simp,?_,hf,?_⟩,?_⟩
  ·intro u hu
   obtain⟨p,hp,rfl⟩:=List.mem_map.1 hu
   obtain⟨h2,h3,_⟩:=key p (List.mem_range.1 hp)
   exact h1 _ _ h2 h3
  ·intro i j hi hj
   have hlt:=xca hi hj
   have e1:(i * T.size e+j) / T.size e=i:=by
    rw[Nat.add_comm,Nat.add_mul_div_right _ _ (by omega),Nat.div_eq_of_lt hj,Nat.zero_add]
   have e2:(i * T.size e+j) % T.size e=j:=by
    rw[Nat.add_comm,Nat.add_mul_mod_self_right,Nat.mod_eq_of_lt hj]
   rw[List.getD_eq_getElem?_getD,List.getElem?_map,List.getElem?_range hlt]
   simp only[Option.map_some,Option.getD_some,e1,e2]
   exact hR i j hi hj
  ·intro hne
   refine⟨b,base,ha hne,?_,?_⟩
   ·intro p v hv
    rw[List.getElem?_map] at hv
    cases hq:(List.range (cs.length * T.size e))[p]? with
    |none=>rw[hq] at hv;cases hv
    |some q=>
     rw[hq] at hv
     simp only[Option.map_some,Option.some.injEq] at hv
     obtain⟨hp,rfl⟩:=List.getElem?_eq_some_iff.1 hq
     simp only[List.length_range] at hp
     simp only[List.getElem_range] at hv
     obtain⟨h2,h3,h4⟩:=key p hp
     rw[← hv,← hc _ _ h2 h3,h4]
   ·intro p hp
    simp only[List.length_map,List.length_range] at hp
    obtain⟨h2,h3,h4⟩:=key p hp
    have:=hD _ _ h2 h3
    rwa [h4] at this
theorem Flat.slice{T:Tab}{w:World}{g:Ghost}{e:TypeId}{cs:List AV}{L:List Value}(h:Flat T w g e cs L)(hsz:1≤T.size e)(b base cap:Nat)(m:Mode)
 (hcap:cs.length≤cap) (hmax:cap≤maxLen) (hm:m≠ .exact) (hc:∀ j v,L[j]? =some v→w.cell? ⟨b,base+j,none⟩=some v) (hD:∀ j,j<L.length→g.D b (base+j))
 (ho:∀ k,m= .own k→∃ tk,g.τ k=some tk∧tk.e=e∧cs.length≤tk.n∧(cs.length=tk.n→tk.v= .slice (some ⟨b,base,none⟩) cs.length cap)) :
 Rep T w g (.slice e cs m) (.slice (some ⟨b,base,none⟩) cs.length cap):=by
 refine .slice g e cs m _ cap b base (fun i j=>L.getD (i * T.size e+j) undef) hcap hmax (fun e'=>absurd e' hm) ho (fun _=>rfl) h.fit ?_ ?_ ?_ h.rep
 ·intro i j hi hj
  have hlt:=xca hi hj
  rw[← h.len] at hlt
  refine hc _ _ ?_
  rw[List.getD_eq_getElem?_getD,List.getElem?_eq_getElem hlt,Option.getD_some]
 ·intro i j hi hj
  have hlt:=xca hi hj
  rw[← h.len] at hlt
  show Value.oneCell' (L.getD _ undef)=true
  rw[List.getD_eq_getElem?_getD,List.getElem?_eq_getElem hlt,Option.getD_some]
  exact h.one _ (List.getElem_mem _)
 ·intro i j hi hj
  have hlt:=xca hi hj
  rw[← h.len] at hlt
  exact hD _ hlt
theorem xdp:∀ l:List Int,lenC l=l.length
 | []=>rfl
 |_::l=>by simp[lenC,xdp l]
theorem xav:∀(l:List Int) (v:Int) (k:Nat),qu (zad l v) k=if k=l.length then v else qu l k
 | [],v,0=>rfl
 | [],v,k+1=>by simp[zad,qu]
 |w::l,v,0=>by simp[zad,qu]
 |w::l,v,k+1=>by simp[zad,qu,xav l v k]
theorem zao:∀(l:List Int) (v:Int),(zad l v).length=l.length+1
 | [],v=>rfl
 |w::l,v=>by simp[zad,zao l v]
theorem vas:∀(l:List Int) (n:Nat) (v:Int) (k:Nat),n<l.length→qu (vy l n v) k=if k=n then v else qu l k
 | [],n,v,k,h=>by simp at h
 |w::l,0,v,0,_=>rfl
 |w::l,0,v,k+1,_=>by simp[vy,qu]
 |w::l,n+1,v,0,_=>by simp[vy,qu]
 |w::l,n+1,v,k+1,h=>by simp[vy,qu,vas l n v k (by simpa using h)]
theorem qao:∀(l:List Int) (n:Nat) (v:Int),(vy l n v).length=l.length
 | [],_,_=>rfl
 |w::l,0,v=>rfl
 |w::l,n+1,v=>by simp[vy,qao l n v]
def setTok(g:Ghost)(k:Nat)(tk:Tok):Ghost:={ g with τ:=fun i=>if i=k then some tk else g.τ i }
theorem qac{g:Ghost}{w:World}{k:Nat}{tk:Tok}(h:∀ t0,g.τ k=some t0→tk.e=t0.e∧(tk=t0∨t0.n<tk.n)):Keeps g w (setTok g k tk) w:=by
 refine⟨fun _ _ e=>e,fun i t0 e=>?_,fun _ _ e=>e,fun _ _ _=>rfl,fun _ c _ fr h=>⟨c,fr,h⟩⟩
 by_cases hi:i=k
 ·subst hi
  exact⟨tk,by simp[setTok],(h t0 e).1,(h t0 e).2⟩
 ·exact⟨t0,by simp[setTok,hi,e],rfl,.inl rfl⟩
theorem WRel.setTok{T:Tab}{g:Ghost}{S:St}{w:World}(r:WRel T g S w)(k:Nat)(tk:Tok)(caps:List Int)(hk:∀ t0,g.τ k=some t0→tk.e=t0.e∧(tk=t0∨t0.n<tk.n))
 (hlen:k<caps.length∧S.caps.length≤caps.length) (hcap:∀ i,qu caps i=if i=k then (tk.n:Int) else qu S.caps i) (hok:zdb T w g tk)
 (hin:∀ i ti b,i≠k→g.τ i=some ti→ti.v.ownBlock=some b→tk.v.ownBlock≠some b):WRel T (AM.setTok g k tk) { S with caps:=caps } w:=by
 have hkp:=qac (w:=w) hk
 refine⟨?_,r.inj,r.dom,r.apart,r.live,?_,?_⟩
 ·intro o b e
  obtain⟨c,t,hc,hs,h1,hR⟩:=r.obj o b e
  exact⟨c,t,hc,hs,h1,fun j hj=>(hR j hj).keeps hkp⟩
 ·intro i ti e
  by_cases hi:i=k
  ·subst hi
   simp only[AM.setTok,if_true,Option.some.injEq] at e
   subst e
   exact⟨hlen.1,by rw[hcap,if_pos rfl],hok⟩
  ·simp only[AM.setTok,if_neg hi] at e
   obtain⟨h1,h2,h3⟩:=r.tok i ti e
   exact⟨Nat.lt_of_lt_of_le h1 hlen.2,by rw[hcap,if_neg hi];exact h2,h3⟩
 ·intro i i' ti ti' b e e' hb hb'
  by_cases hi:i=k<;>by_cases hi':i'=k
  ·omega
  ·subst hi
   simp only[AM.setTok,if_true,Option.some.injEq,if_neg hi'] at e e'
   subst e
   exact absurd hb (hin i' ti' b hi' e' hb')
  ·subst hi'
   simp only[AM.setTok,if_true,Option.some.injEq,if_neg hi] at e e'
   subst e'
   exact absurd hb' (hin i ti b hi e hb)
  ·simp only[AM.setTok,if_neg hi,if_neg hi'] at e e'
   exact r.tinj i i' ti ti' b e e' hb hb'
end Go.AM
namespace Go.AM
section
variable {P:Program} {T:Tab} {C:Ctx} {g:Ghost} {env:Env} {S:St} {a:Act} {w:World} (hT:TabOk P T) (h:Inv T C g env S a w)
include h hT
theorem ydr{e:TypeId}{cs:List AV}{L:List Value}(hL:Flat T w g e cs L)(hsz:1≤T.size e)(Zs:Array Value)(cap:Nat)(hcap:cs.length≤cap)(hmax:cap≤maxLen)
 (hcells:(L.toArray++Zs).size=cap * T.size e) (k:Nat) (hk:∀ t0,g.τ k=some t0→t0.e=e∧t0.n<cs.length) (caps:List Int)
 (hlen:k<caps.length∧S.caps.length≤caps.length) (hcapk:∀ i,qu caps i=if i=k then (cs.length:Int) else qu S.caps i) :
 ∃ g',Inv T C g' env { S with caps:=caps } a (w.drew.alloc (.cells (L.toArray++Zs) e)) ∧
  Rep T (w.drew.alloc (.cells (L.toArray++Zs) e)) g' (.slice e cs (.own k)) (.slice (some ⟨w.heap.size,0,none⟩) cs.length cap):=by
 let w':=w.drew.alloc (.cells (L.toArray++Zs) e)
 let g1:Ghost:={ g with D:=fun b off=>g.D b off∨(b=w.heap.size∧off<L.length) }
 have hg1:Grow g w g1 w':=by
  refine⟨rfl,rfl,fun _ _ hh=> .inl hh,fun b off hh=>?_,fun b hb=>heap_alloc_old w.drew _ b hb,by simp[w'],rfl,rfl,rfl⟩
  rcases hh with hh|⟨rfl,_⟩
  ·exact .inl hh
  ·exact .inr ⟨Nat.le_refl _,by simp[w']⟩
 let tk:Tok:={ e:=e,v:= .slice (some ⟨w.heap.size,0,none⟩) cs.length cap,n:=cs.length }
 have hnew:w'.heap[w.heap.size]? =some (.cells (L.toArray++Zs) e (0,0)):=heap_alloc_new w.drew _
 have hrow:∀ j v,L[j]? =some v→w'.cell? ⟨w.heap.size,0+j,none⟩=some v:=by
  intro j v hv
  have hj:j<L.length:=(List.getElem?_eq_some_iff.1 hv).1
  simp only[World.cell?,hnew,Nat.zero_add]
  simp only[Array.getElem?_append,List.size_toArray,hj,if_true,List.getElem?_toArray,hv]
  simp[hv]
 have hi:=h.grow hg1
 have hk1:=hg1.keeps h.rel
 have hown:w'.ownsRow 0 e (T.size e) tk.v tk.n L:=by
  refine⟨hL.len,.inr ⟨w.heap.size,cap,_,rfl,Nat.zero_le _,hnew,hcap,hmax,hcells,?_⟩⟩
  simp only[Array.toList_append]
  show List.take (cs.length * T.size e) (L++Zs.toList)=L
  rw[← hL.len];exact List.take_left
 have hok:zdb T w' g1 tk:=by
  refine⟨L,.inr hown,fun b hb=>?_⟩
  have:w.heap.size=b:=by simpa[tk,Value.ownBlock] using hb
  subst this
  refine⟨fun off ho hD=>?_,fun o ho=>?_⟩
  ·rcases hD with hD|⟨_,hD⟩
   ·have:=h.rel.live _ _ hD;omega
   ·rw[hL.len] at hD;simp only[tk] at ho;omega
  ·obtain⟨c,t,hc,_⟩:=h.rel.obj o _ ho
   have:=xao hc;omega
 have hkk:∀ t0,g1.τ k=some t0→tk.e=t0.e∧(tk=t0∨t0.n<tk.n):=fun t0 e0=>⟨(hk t0 e0).1.symm,.inr (hk t0 e0).2⟩
 have hrel:=hi.rel.setTok k tk caps hkk hlen hcapk hok (fun i ti b hne e0 hb hb'=>by
  have:w.heap.size=b:=by simpa[tk,Value.ownBlock] using hb'
  obtain⟨_,_,xs,ho,_⟩:=h.rel.tok i ti e0
  have:=(ho.lt b hb).2;omega)
 have hkt:=qac (w:=w') hkk
 have hkeep:Keeps g w (setTok g1 k tk) w':=hk1.trans hkt
 refine⟨setTok g1 k tk,h.step hrel ⟨hg1.os,hg1.tape,hg1.output,hg1.size,hkeep,fun b hb _=>hg1.heap b hb,fun b off hD=>?_⟩ h.ob (fun i ti b e0 hb=>?_) (fun _ _ q=> .inl q) (Nat.le_refl _),?_⟩
 ·rcases hD with hD|⟨rfl,_⟩
  ·exact .inl hD
  ·exact .inr (.inr (Nat.le_refl _))
 ·by_cases hik:i=k
  ·subst hik
   simp only[setTok,if_true,Option.some.injEq] at e0
   subst e0
   have:w.heap.size=b:=by simpa[tk,Value.ownBlock] using hb
   exact .inr (by rw[← this];exact h.ext.size)
  ·simp only[setTok,if_neg hik] at e0
   exact h.tb i ti b e0 hb
 ·refine(hL.keeps hkeep).slice hsz w.heap.size 0 cap (.own k) hcap hmax (by simp) hrow (fun j hj=> .inr ⟨rfl,by omega⟩) ?_
  intro k' hk'
  simp only[Mode.own.injEq] at hk'
  subst hk'
  exact⟨tk,by simp[setTok],rfl,Nat.le_refl _,fun _=>rfl⟩
theorem jdr{e:TypeId}{cs ys:List AV}{k:Nat}{tk:Tok}{b cap:Nat}{cur:Array Value}{L M:List Value}(htk:g.τ k=some tk)(he:tk.e=e)(hn:tk.n=cs.length)
 (hv:tk.v= .slice (some ⟨b,0,none⟩) cs.length cap) (hcur:w.heap[b]? =some (.cells cur e (0,0))) (hcs:cur.size=cap * T.size e) (hmax:cap≤maxLen)
 (htake:cur.toList.take (cs.length * T.size e)=L) (hL:Flat T w g e cs L) (hM:Flat T w g e ys M) (hsz:1≤T.size e) (hroom:cs.length+ys.length≤cap) (hy:0<ys.length) :
 ∃ g',Inv T C g' env { S with caps:=vy S.caps k ((cs++ys).length:Int) } a (w.setRow b (cur.toList.take (cs.length * T.size e)++M++cur.toList.drop (cs.length * T.size e+M.length)).toArray) ∧
  Rep T (w.setRow b (cur.toList.take (cs.length * T.size e)++M++cur.toList.drop (cs.length * T.size e+M.length)).toArray) g' (.slice e (cs++ys) (.own k)) (.slice (some ⟨b,0,none⟩) (cs++ys).length cap):=by
 obtain⟨hkl,hkc,xs,hown,hblk⟩:=h.rel.tok k tk htk
 obtain⟨hspare,hnob⟩:=hblk b (by simp[hv,Value.ownBlock])
 have hlenT:(cur.toList.take (cs.length * T.size e)).length=cs.length * T.size e:=by rw[htake];exact hL.len
 let row:=(cur.toList.take (cs.length * T.size e)++M++cur.toList.drop (cs.length * T.size e+M.length)).toArray
 have hMlen:=hM.len
 have hLM:=hL.append hM
 have hsum:cs.length * T.size e+M.length=(cs++ys).length * T.size e:=by rw[hMlen,List.length_append,Nat.add_mul]
 have hfit:(cs++ys).length * T.size e≤cap * T.size e:=Nat.mul_le_mul_right _ (by simpa using hroom)
 have hrowsize:row.size=cap * T.size e:=by
  simp only[row,List.size_toArray,List.length_append,hlenT,List.length_drop,Array.length_toList,hcs]
  omega
 let w':=w.setRow b row
 have hnew:w'.heap[b]? =some (.cells row e (0,0)):=setRow_heap w b cur row e (0,0) hcur
 have hother:∀ i,i≠b→w'.heap[i]? =w.heap[i]? :=fun i hi=>setRow_other w b i row hi
 have hsize:w'.heap.size=w.heap.size:=by simp[w',World.setRow]
 let g1:Ghost:={ g with D:=fun b' off=>g.D b' off∨(b'=b∧off<(cs++ys).length * T.size e) }
 have hpre:∀ off,off<cs.length * T.size e→row[off]? =cur[off]? :=by
  intro off ho
  have:off<(cur.toList.take (cs.length * T.size e)).length:=by omega
  simp only[row,List.getElem?_toArray,List.append_assoc]
  rw[List.getElem?_append_left this,List.getElem?_take,if_pos ho,Array.getElem?_toList]
 have hcell:∀ b' off,g.D b' off→w'.cell? ⟨b',off,none⟩=w.cell? ⟨b',off,none⟩:=by
  intro b' off hD
  by_cases hb:b'=b
  ·subst hb
   have hlt:off<cs.length * T.size e:=by
    rcases Nat.lt_or_ge off (cs.length * T.size e) with h'|h'
    ·exact h'
    ·exact absurd hD (hspare off (by rw[hn,he];exact h'))
   simp only[World.cell?,hnew,hcur]
   simpa using hpre off hlt
  ·exact cell_of_heap (hother b' hb)
 let tk':Tok:={ e:=e,v:= .slice (some ⟨b,0,none⟩) (cs++ys).length cap,n:=(cs++ys).length }
 have hbl:b<w.heap.size:=xao hcur
 have hkeep1:Keeps g w g1 w':=⟨fun _ _ e0=>e0,fun i ti e0=>⟨ti,e0,rfl,.inl rfl⟩,fun _ _ hD=> .inl hD,hcell,fun b' c t fr e0=>by
  by_cases hb:b'=b
  ·subst hb
   have:=hcur.symm.trans e0
   simp only[Option.some.injEq,Obj.cells.injEq] at this
   obtain⟨_,rfl,_⟩:=this
   exact⟨_,_,hnew⟩
  ·exact⟨c,fr,(hother b' hb).trans e0⟩⟩
 have hkk:∀ t0,g1.τ k=some t0→tk'.e=t0.e∧(tk'=t0∨t0.n<tk'.n):=by
  intro t0 e0
  have:tk=t0:=by have:=htk.symm.trans e0;simpa using this
  subst this
  exact⟨he.symm,.inr (by simp only[tk',hn,List.length_append];omega)⟩
 have hkt:=qac (w:=w') hkk
 have hkeep:Keeps g w (setTok g1 k tk') w':=hkeep1.trans hkt
 have hown':w'.ownsRow 0 e (T.size e) tk'.v tk'.n (L++M):=by
  refine⟨by rw[hLM.len],.inr ⟨b,cap,row,rfl,Nat.zero_le _,hnew,by simp only[tk',List.length_append];exact hroom,hmax,hrowsize,?_⟩⟩
  simp only[row,htake]
  show List.take ((cs++ys).length * T.size e) (L++M++_)=L++M
  rw[← hLM.len];exact List.take_left
 have hrel:WRel T (setTok g1 k tk') { S with caps:=vy S.caps k ((cs++ys).length:Int) } w':=by
  refine⟨?_,h.rel.inj,h.rel.dom,?_,?_,?_,?_⟩
  ·intro o b' e0
   obtain⟨c,t,hc,hs,h1,hR⟩:=h.rel.obj o b' e0
   have hb:b'≠b:=fun e1=>hnob o (e1 ▸ e0)
   exact⟨c,t,(hother b' hb).trans hc,hs,h1,fun j hj=>(hR j hj).keeps hkeep⟩
  ·intro o b' off e0 hD
   rcases hD with hD|⟨rfl,_⟩
   ·exact h.rel.apart o b' off e0 hD
   ·exact hnob o e0
  ·intro b' off hD
   rw[hsize]
   rcases hD with hD|⟨rfl,_⟩
   ·exact h.rel.live b' off hD
   ·exact hbl
  ·intro i ti e0
   by_cases hik:i=k
   ·subst hik
    simp only[setTok,if_true,Option.some.injEq] at e0
    subst e0
    refine⟨by rw[qao];exact hkl,by rw[vas _ _ _ _ hkl,if_pos rfl],L++M,.inr hown',fun b' hb'=>?_⟩
    have:b=b':=by simpa[tk',Value.ownBlock] using hb'
    subst this
    refine⟨fun off ho hD=>?_,hnob⟩
    rcases hD with hD|⟨_,hD⟩
    ·refine hspare off ?_ hD
     rw[hn,he]
     have:cs.length * T.size e≤(cs++ys).length * T.size e:=Nat.mul_le_mul_right _ (by simp)
     simp only[tk'] at ho
     omega
    ·simp only[tk'] at ho;omega
   ·simp only[setTok,if_neg hik] at e0
    obtain⟨h1,h2,xs',ho',hb'⟩:=h.rel.tok i ti e0
    refine⟨by rw[qao];exact h1,by rw[vas _ _ _ _ hkl,if_neg hik];exact h2,xs',?_,fun b' hbb=>?_⟩
    ·refine ho'.kept (row:=some b) ⟨rfl,rfl,rfl,by rw[hsize];exact Nat.le_refl _,fun j hj hne=>hother j (fun e1=>hne (by rw[e1]))⟩ ?_
     cases hob:ti.v.ownBlock with
     |none=>exact .inl rfl
     |some b2=>
      refine .inr fun e1=>?_
      have:b2=b:=by simpa using e1
      subst this
      exact hik (h.rel.tinj i k ti tk b2 e0 htk hob (by simp[hv,Value.ownBlock]))
    ·obtain⟨h3,h4⟩:=hb' b' hbb
     refine⟨fun off ho hD=>?_,h4⟩
     rcases hD with hD|⟨rfl,_⟩
     ·exact h3 off ho hD
     ·exact hik (h.rel.tinj i k ti tk b' e0 htk hbb (by simp[hv,Value.ownBlock]))
  ·intro i i' ti ti' b' e0 e0' hb hb'
   by_cases hi:i=k<;>by_cases hi':i'=k
   ·omega
   ·subst hi
    simp only[setTok,if_true,Option.some.injEq,if_neg hi'] at e0 e0'
    subst e0
    have:b=b':=by simpa[tk',Value.ownBlock] using hb
    subst this
    exact h.rel.tinj i i' tk ti' b htk e0' (by simp[hv,Value.ownBlock]) hb'
   ·subst hi'
    simp only[setTok,if_true,Option.some.injEq,if_neg hi] at e0 e0'
    subst e0'
    have:b=b':=by simpa[tk',Value.ownBlock] using hb'
    subst this
    exact h.rel.tinj i i' ti tk b e0 htk hb (by simp[hv,Value.ownBlock])
   ·simp only[setTok,if_neg hi,if_neg hi'] at e0 e0'
    exact h.rel.tinj i i' ti ti' b' e0 e0' hb hb'
 have htb:=h.tb k tk b htk (by simp[hv,Value.ownBlock])
 refine⟨setTok g1 k tk',h.step hrel ⟨rfl,rfl,rfl,by rw[hsize];exact Nat.le_refl _,hkeep,fun b' hb hnt=>hother b' (fun e1=>hnt (e1 ▸ htb)),fun b' off hD=>?_⟩ h.ob (fun i ti b' e0 hb=>?_) (fun _ _ q=> .inl q) (Nat.le_refl _),?_⟩
 ·rcases hD with hD|⟨rfl,_⟩
  ·exact .inl hD
  ·exact .inr (.inl htb)
 ·by_cases hik:i=k
  ·subst hik
   simp only[setTok,if_true,Option.some.injEq] at e0
   subst e0
   have:b=b':=by simpa[tk',Value.ownBlock] using hb
   subst this
   exact htb
  ·simp only[setTok,if_neg hik] at e0
   exact h.tb i ti b' e0 hb
 ·refine(hLM.keeps hkeep).slice hsz b 0 cap (.own k) (by simpa using hroom) hmax (by simp) ?_ (fun j hj=> .inr ⟨rfl,by rw[hLM.len] at hj;omega⟩) ?_
  ·intro j v hjv
   have hj:j<(L++M).length:=(List.getElem?_eq_some_iff.1 hjv).1
   show w'.cell? _=_
   simp only[World.cell?,hnew,Nat.zero_add]
   simp only[row,htake,List.getElem?_toArray]
   rw[List.getElem?_append_left hj]
   simpa using hjv
  ·intro k' hk'
   simp only[Mode.own.injEq] at hk'
   subst hk'
   exact⟨tk',by simp[setTok],rfl,Nat.le_refl _,fun _=>rfl⟩
end
end Go.AM
namespace Go.AM
def GlobOk(T:Tab)(g:Ghost)(w:World):Prop:=∀ gl t e,T.glob gl=some (t,e)→Rep T w g (.eptr t e 0) (.pointer (some ⟨gl,0,none⟩))
def qj(g:Ghost)(b:Nat):Prop:=(∃ o,g.ρ o=some b)∨∃ k tk,g.τ k=some tk∧tk.v.ownBlock=some b
def vdj(T:Tab)(w:World)(g:Ghost):Out→Ending→Prop
 |.ret v,.returned x=>Rep T w g v x
 |.panic v,.panicked chain=>∃ x,chain=[{ v:=x,recovered:=false }]∧Rep T w g v x
 |_,_=>False
def vj(T:Tab)(g:Ghost)(S:St)(w:World)(K:Out→St→Prop):Ending→World→Prop:=
 fun e w'=>∃ out S' g',K out S'∧vdj T w' g' out e∧WRel T g' S' w'∧Ext (qj g) g w g' w'∧(∀ b,qj g' b→qj g b∨w.heap.size≤b) ∧
  (∀ o b,g'.ρ o=some b→g.ρ o=some b∨S.next≤o)∧S.next≤S'.next
def Enters(P:Program)(f:FuncId):Prop:=∀(args:Array Value) (w:World),(callFunc f args).run P w= .ok (.enter f args) w
def Into(P:Program)(f:FuncId)(vs:List Value)(w:World)(R:Ending→World→Prop):Prop:=
 (Enters P f∧Calls P f vs.toArray w R)∨∃ x w',(callFunc f vs.toArray).run P w= .ok (.value x) w'∧R (.returned x) w'
def zk(T:Tab)(w:World)(g:Ghost)(args:List AV)(vs:List Value):Prop:=
 vs.length=args.length∧∀ j,j<args.length→Rep T w g (nth args j) (vs.getD j undef)
def jb(P:Program)(T:Tab)(f:FuncId)(args:List AV)(S:St)(K:Out→St→Prop):Prop:=
 ∀(g:Ghost) (w:World) (vs:List Value),WRel T g S w→GlobOk T g w→zk T w g args vs→Into P f vs w (vj T g S w K)
def exRel(T:Tab)(w:World)(g:Ghost):Ex→Exit→Prop
 |.normal,.normal=>True
 |.exit i,.exit j=>i=j
 |.ret,.ret=>True
 |.panic v,.panic chain=>∃ x,chain=[{ v:=x,recovered:=false }]∧Rep T w g v x
 |_,_=>False
def Post(T:Tab)(C:Ctx)(K:Ex→Env→St→Prop):Exit→Act→World→Prop:=
 fun e a w=>∃ ex env S g,K ex env S∧exRel T w g ex e∧Inv T C g env S a w
def WpA(P:Program)(T:Tab)(C:Ctx)(c:Code)(K:Ex→Env→St→Prop)(env:Env)(S:St):Prop:=
 ∀ g a w,Inv T C g env S a w→c.wp P (Post T C K) a w
def qcd(P:Program)(c:Code)(Q:Exit→Act→World→Prop)(a:Act)(w:World):Prop:=
 ∀(b:Frame) (k:List Item) (cs:List Frame),∃ e a' w',Q e a' w'∧Arrives P (lone (b.at a (.code c:: .inLoop c::k)) cs w) b k cs e a' w'
def za(P:Program)(T:Tab)(N:Nat)(c:Code)(K:Ex→Env→St→Prop)(env:Env)(S:St):Prop:=
 ∀ C:Ctx,C.n=N→∀ g a w,Inv T C g env S a w→qcd P c (Post T C K) a w
def pAlg(P:Program)(T:Tab)(N:Nat):Alg Prop where
 fail:=False
 need b r:=b=true∧r
 same a b r:=a=b∧r
 call:=jb P T
 loop:=za P T N
section
variable {P:Program} {T:Tab} {C:Ctx} {g:Ghost} {env:Env} {S:St} {a:Act} {w:World}
theorem yat(S:St)(r:List AV)(o:Nat):(S.push r).row o=if S.next=o then r else S.row o:=by
 simp only[St.push,St.row,vaq]
 cases hb:Nat.beq S.next o with
 |true=>rw[if_pos (Nat.eq_of_beq_eq_true hb)]
 |false=>rw[if_neg (Nat.ne_of_beq_eq_false hb)]
theorem yak:∀(l:List (Nat × List AV)) (o:Nat) (r:List AV) (p:Nat),vaq l o≠[]→vaq (vcg l o r) p=if o=p then r else vaq l p
 | [],o,r,p,h=>absurd rfl h
 |(k,q)::l,o,r,p,h=>by
  simp only[vaq,vcg] at h ⊢
  cases hb:Nat.beq k o with
  |true=>
   have hko:k=o:=Nat.eq_of_beq_eq_true hb
   subst hko
   simp only[vaq]
   cases hp:Nat.beq k p with
   |true=>rw[if_pos (Nat.eq_of_beq_eq_true hp)]
   |false=>rw[if_neg (Nat.ne_of_beq_eq_false hp)]
  |false=>
   simp only[hb] at h
   simp only[vaq]
   have hne:k≠o:=Nat.ne_of_beq_eq_false hb
   cases hp:Nat.beq k p with
   |true=>
    have hkp:k=p:=Nat.eq_of_beq_eq_true hp
    subst hkp
    rw[if_neg (Ne.symm hne)]
   |false=>exact yak l o r p h
theorem zb8(S:St)(r:List AV):(S.push r).next=S.next+1:=rfl
theorem Inv.push(h:Inv T C g env S a w)(row:List AV):Inv T C g env (S.push row) a w:=by
 have hlt:∀ o b,g.ρ o=some b→(S.push row).row o=S.row o:=fun o b e=>by
  rw[yat,if_neg]
  have:=h.rel.dom o b e
  omega
 refine⟨h.tmp,h.size,h.defers,⟨?_,h.rel.inj,fun o b e=>Nat.lt_succ_of_lt (h.rel.dom o b e),h.rel.apart,h.rel.live,h.rel.tok,h.rel.tinj⟩,h.ext,h.ob,h.tb,h.glob,h.nm,Nat.le_succ_of_le h.next⟩
 intro o b e
 obtain⟨c,t,hc,hs,h1,hR⟩:=h.rel.obj o b e
 refine⟨c,t,hc,by rw[hlt o b e];exact hs,h1,fun j hj=>?_⟩
 rw[hlt o b e] at hj ⊢
 exact hR j hj
theorem Inv.name(h:Inv T C g env S a w){ob:Nat}(hob:ob<S.next)(hfree:g.ρ ob=none)(hnx:C.next≤ob){c:Array Value}{t:TypeId}(hs:c.size=(S.row ob).length)
 (h1:∀ u ∈ c.toList,u.oneCell'=true) (hR:∀ j,j<(S.row ob).length→Rep T w g (nth (S.row ob) j) (c.toList.getD j undef)) :
 ∃ g',Inv T C g' env S a (w.alloc (.cells c t))∧Keeps g w g' (w.alloc (.cells c t))∧Rep T (w.alloc (.cells c t)) g' (.ptr ob 0) (.pointer (some ⟨w.heap.size,0,none⟩)) ∧
  (∀ o,o≠ob→g'.ρ o=g.ρ o):=by
 have hg:Grow g w g (w.alloc (.cells c t)):=⟨rfl,rfl,fun _ _ hh=>hh,fun _ _ hh=> .inl hh,fun b hb=>heap_alloc_old w _ b hb,by simp,rfl,rfl,rfl⟩
 have hr:=h.rel.grow hg
 have hk1:=hg.keeps h.rel
 let g':Ghost:={ g with ρ:=fun o=>if o=ob then some w.heap.size else g.ρ o }
 have hk2:Keeps g (w.alloc (.cells c t)) g' (w.alloc (.cells c t)):=by
  refine⟨fun o b e=>?_,fun k tk e=>⟨tk,e,rfl,.inl rfl⟩,fun _ _ hh=>hh,fun _ _ _=>rfl,fun _ c _ fr h=>⟨c,fr,h⟩⟩
  by_cases ho:o=ob
  ·subst ho;rw[hfree] at e;cases e
  ·simp only[g',if_neg ho];exact e
 have hk:=hk1.trans hk2
 have hlt:∀ o b,g.ρ o=some b→b<w.heap.size:=fun o b e=>by
  obtain⟨c',t',hc,_⟩:=h.rel.obj o b e
  exact xao hc
 have hkext:Ext (fun b=>C.touch b∨C.w0.heap.size≤b) g w g' (w.alloc (.cells c t)):=⟨rfl,rfl,rfl,by simp,hk,fun b hb _=>hg.heap b hb,fun b off hD=> .inl hD⟩
 refine⟨g',⟨fun u=>(h.tmp u).keeps hk,h.size,h.defers,?_,h.ext.trans hkext,?_,h.tb,fun gl t e' hg=>(h.glob gl t e' hg).keeps hk,?_,h.next⟩,hk,.ptr _ _ _ _ (by simp[g']),fun o ho=>by simp[g',ho]⟩
 ·refine⟨?_,?_,?_,?_,?_,?_,hr.tinj⟩
  ·intro o b e
   by_cases ho:o=ob
   ·subst ho
    simp only[g',if_true,Option.some.injEq] at e
    subst e
    exact⟨c,t,heap_alloc_new w _,hs,h1,fun j hj=>(hR j hj).keeps hk⟩
   ·simp only[g',if_neg ho] at e
    obtain⟨c',t',hc,hs',h1',hR'⟩:=hr.obj o b e
    exact⟨c',t',hc,hs',h1',fun j hj=>(hR' j hj).keeps hk2⟩
  ·intro o o' b e e'
   by_cases ho:o=ob<;>by_cases ho':o'=ob
   ·rw[ho,ho']
   ·subst ho
    simp only[g',if_true,Option.some.injEq,if_neg ho'] at e e'
    have:=hlt _ _ e';omega
   ·subst ho'
    simp only[g',if_true,Option.some.injEq,if_neg ho] at e e'
    have:=hlt _ _ e;omega
   ·simp only[g',if_neg ho,if_neg ho'] at e e'
    exact h.rel.inj _ _ _ e e'
  ·intro o b e
   by_cases ho:o=ob
   ·subst ho;exact hob
   ·simp only[g',if_neg ho] at e
    exact h.rel.dom _ _ e
  ·intro o b off e hD
   by_cases ho:o=ob
   ·subst ho
    simp only[g',if_true,Option.some.injEq] at e
    subst e
    have:=h.rel.live _ _ hD;omega
   ·simp only[g',if_neg ho] at e
    exact h.rel.apart _ _ _ e hD
  ·intro b off hD
   have:=h.rel.live _ _ hD
   simp;omega
  ·intro k tk e
   obtain⟨q1,q2,xs,q3,q4⟩:=hr.tok k tk e
   refine⟨q1,q2,xs,q3,fun b hb=>⟨(q4 b hb).1,fun o e'=>?_⟩⟩
   by_cases ho:o=ob
   ·subst ho
    simp only[g',if_true,Option.some.injEq] at e'
    subst e'
    obtain⟨_,_,xs',q5,_⟩:=h.rel.tok k tk e
    have:=(q5.lt _ hb).2;omega
   ·simp only[g',if_neg ho] at e'
    exact(q4 b hb).2 o e'
 ·intro o b e
  by_cases ho:o=ob
  ·subst ho
   simp only[g',if_true,Option.some.injEq] at e
   subst e
   exact .inr h.ext.size
  ·simp only[g',if_neg ho] at e
   exact h.ob _ _ e
 ·intro o b e
  by_cases ho:o=ob
  ·subst ho
   exact .inr hnx
  ·simp only[g',if_neg ho] at e
   exact h.nm _ _ e
theorem Inv.new(h:Inv T C g env S a w){c:Array Value}{t:TypeId}{row:List AV}(hs:c.size=row.length)(h1:∀ u ∈ c.toList,u.oneCell'=true)
 (hR:∀ j,j<row.length→Rep T w g (nth row j) (c.toList.getD j undef)) :
 ∃ g',Inv T C g' env (S.push row) a (w.alloc (.cells c t))∧Keeps g w g' (w.alloc (.cells c t))∧Rep T (w.alloc (.cells c t)) g' (.ptr S.next 0) (.pointer (some ⟨w.heap.size,0,none⟩)):=by
 have hrow:(S.push row).row S.next=row:=by rw[yat,if_pos rfl]
 have hfree:g.ρ S.next=none:=by
  cases hq:g.ρ S.next with
  |none=>rfl
  |some b=>exact absurd (h.rel.dom _ _ hq) (Nat.lt_irrefl _)
 obtain⟨g',h1',h2',h3',_⟩:=(h.push row).name (ob:=S.next) (c:=c) (t:=t) (Nat.lt_succ_self _) hfree h.next (by rw[hrow];exact hs) h1 (by rw[hrow];exact hR)
 exact⟨g',h1',h2',h3'⟩
theorem Inv.retell(h:Inv T C g env S a w){o:Nat}{row:List AV}(hne:S.row o≠[])(hl:row.length=(S.row o).length)
 (hR:∀ j,j<row.length→∀ x,Rep T w g (nth (S.row o) j) x→Rep T w g (nth row j) x):Inv T C g env (S.set o row) a w:=by
 have hrow:∀ p,(S.set o row).row p=if o=p then row else S.row p:=fun p=>yak _ _ _ _ hne
 refine⟨h.tmp,h.size,h.defers,⟨?_,h.rel.inj,h.rel.dom,h.rel.apart,h.rel.live,h.rel.tok,h.rel.tinj⟩,h.ext,h.ob,h.tb,h.glob,h.nm,h.next⟩
 intro p b e
 obtain⟨c,t,hc,hs,h1,hR'⟩:=h.rel.obj p b e
 by_cases hp:o=p
 ·subst hp
  refine⟨c,t,hc,by rw[hrow,if_pos rfl,hl];exact hs,h1,fun j hj=>?_⟩
  rw[hrow,if_pos rfl] at hj ⊢
  exact hR j hj _ (hR' j (by omega))
 ·refine⟨c,t,hc,by rw[hrow,if_neg hp];exact hs,h1,fun j hj=>?_⟩
  rw[hrow,if_neg hp] at hj ⊢
  exact hR' j hj
theorem Inv.write(h:Inv T C g env S a w){o b off:Nat}{c:Array Value}{t:TypeId}{vs:List AV}{xs:List Value}(hb:g.ρ o=some b)(hc:w.heap[b]? =some (.cells c t (0,0)))
 (hl:xs.length=vs.length) (hle:off+vs.length≤(S.row o).length) (hne:S.row o≠[]) (h1:∀ u ∈ xs,u.oneCell'=true) (hR:∀ j,j<vs.length→Rep T w g (nth vs j) (xs.getD j undef)) :
 Inv T C g env (S.set o (zx (S.row o) off vs)) a (w.setRow b (c.toList.take off++xs++c.toList.drop (off+xs.length)).toArray):=by
 let c':=(c.toList.take off++xs++c.toList.drop (off+xs.length)).toArray
 let w':=w.setRow b c'
 obtain⟨c0,t0,hc0,hs0,h10,hR0⟩:=h.rel.obj o b hb
 have hcc:c=c0∧t=t0:=by
  have:=hc.symm.trans hc0
  simp only[Option.some.injEq,Obj.cells.injEq] at this
  exact⟨this.1,this.2.1⟩
 obtain⟨rfl,rfl⟩:=hcc
 have hnew:w'.heap[b]? =some (.cells c' t (0,0)):=setRow_heap w b c c' t (0,0) hc
 have hother:∀ i,i≠b→w'.heap[i]? =w.heap[i]? :=fun i hi=>setRow_other w b i c' hi
 have hsize:w'.heap.size=w.heap.size:=by simp[w',World.setRow]
 have htake:(c.toList.take off).length=off:=by
  have e:=Array.length_toList (xs:=c)
  rw[List.length_take];omega
 have hcs:c'.size=c.size:=by
  have e:=Array.length_toList (xs:=c)
  simp only[c',List.size_toArray,List.length_append,htake,List.length_drop]
  omega
 have hget:∀ j,c'.toList.getD j undef=if off≤j∧j<off+xs.length then xs.getD (j-off) undef else c.toList.getD j undef:=by
  intro j
  simp only[c',List.getD_eq_getElem?_getD,List.append_assoc]
  by_cases hj1:j<off
  ·rw[List.getElem?_append_left (by omega),if_neg (by omega),List.getElem?_take,if_pos hj1]
  ·rw[List.getElem?_append_right (by omega),htake]
   by_cases hj2:j<off+xs.length
   ·rw[List.getElem?_append_left (by omega),if_pos (by omega)]
   ·rw[List.getElem?_append_right (by omega),if_neg (by omega),List.getElem?_drop]
    congr 2;omega
 have hDb:∀ off',¬ g.D b off':=fun off' hD=>h.rel.apart o b off' hb hD
 have hkeep:Keeps g w g w':=by
  refine⟨fun _ _ e=>e,fun k tk e=>⟨tk,e,rfl,.inl rfl⟩,fun _ _ hD=>hD,fun b' off' hD=>?_,fun b' c2 t2 fr2 e0=>?_⟩
  rotate_left
  ·by_cases hb2:b'=b
   ·subst hb2
    have:=hc.symm.trans e0
    simp only[Option.some.injEq,Obj.cells.injEq] at this
    obtain⟨_,rfl,_⟩:=this
    exact⟨_,_,hnew⟩
   ·exact⟨c2,fr2,(hother b' hb2).trans e0⟩
  have hbb:b'≠b:=fun e=>hDb off' (e ▸ hD)
  exact cell_of_heap (hother b' hbb)
 have hrow:∀ p,(S.set o (zx (S.row o) off vs)).row p=if o=p then zx (S.row o) off vs else S.row p:=fun p=>yak _ _ _ _ hne
 have htouch:=h.ob o b hb
 refine h.step ?_ ⟨rfl,rfl,rfl,by rw[hsize];exact Nat.le_refl _,hkeep,fun b' hb' hnt=>hother b' (fun e=>hnt (e ▸ htouch)),fun b' off' hD=> .inl hD⟩ h.ob h.tb (fun _ _ q=> .inl q) (Nat.le_refl _)
 refine⟨?_,h.rel.inj,h.rel.dom,h.rel.apart,fun b' off' hD=>by rw[hsize];exact h.rel.live b' off' hD,?_,h.rel.tinj⟩
 ·intro p b' e
  by_cases hp:o=p
  ·subst hp
   have:b'=b:=by have:=e.symm.trans hb;simpa using this
   subst this
   refine⟨c',t,hnew,by rw[hrow,if_pos rfl,zac,hcs];exact hs0,?_,?_⟩
   ·intro u hu
    simp only[c',List.mem_append] at hu
    rcases hu with (hu|hu)|hu
    ·exact h10 u (List.mem_of_mem_take hu)
    ·exact h1 u hu
    ·exact h10 u (List.mem_of_mem_drop hu)
   ·intro j hj
    rw[hrow,if_pos rfl] at hj ⊢
    rw[zac] at hj
    rw[xar _ _ _ _ hle,hget]
    by_cases hin:off≤j∧j<off+vs.length
    ·rw[if_pos hin,if_pos (by omega)]
     exact(hR _ (by omega)).keeps hkeep
    ·rw[if_neg hin,if_neg (by omega)]
     exact(hR0 j hj).keeps hkeep
  ·have hbb:b'≠b:=fun e'=>hp (h.rel.inj o p b hb (e' ▸ e))
   obtain⟨c2,t2,hc2,hs2,h12,hR2⟩:=h.rel.obj p b' e
   refine⟨c2,t2,(hother b' hbb).trans hc2,by rw[hrow,if_neg hp];exact hs2,h12,fun j hj=>?_⟩
   rw[hrow,if_neg hp] at hj ⊢
   exact(hR2 j hj).keeps hkeep
 ·intro k tk e
  obtain⟨q1,q2,xs',q3,q4⟩:=h.rel.tok k tk e
  refine⟨q1,q2,xs',?_,q4⟩
  refine q3.kept (row:=some b) ⟨rfl,rfl,rfl,by rw[hsize];exact Nat.le_refl _,fun j hj hn=>hother j (fun e1=>hn (by rw[e1]))⟩ ?_
  cases hob:tk.v.ownBlock with
  |none=>exact .inl rfl
  |some b2=>
   refine .inr fun e1=>?_
   have:b2=b:=by simpa using e1
   subst this
   exact(q4 b2 hob).2 o hb
section
variable (hT:TabOk P T) (h:Inv T C g env S a w)
include hT h
theorem xcf(N:Nat)(o:Oper)(t:TypeId)(x v:Operand)(ho:o.op= .store t x v){Pa K:AV→St→Prop}(hx:xeff (pAlg P T N) T env S o.op Pa K) :
 ∃ S' w',K .undef S'∧(execOp a.eval o).run P w= .ok .skip w'∧Inv T C g env S' a w':=by
 rw[ho] at hx
 simp only[xeff] at hx
 split at hx
 ·rename_i ob off hp
  split at hx
  ·rename_i hk
   split at hx
   ·rename_i hsz
    split at hx
    ·rename_i hle
     have hcl:(AM.ev T env v).cells.length=T.size t:=by have:=Nat.eq_of_beq_eq_true hsz;rwa [vx] at this
     have hle':=qat hle
     rw[vx] at hle'
     have hax:=h.ev x
     rw[hp] at hax
     generalize hxx:a.eval x=u at hax
     cases hax with
     |ptr _ _ _ b hb=>
      obtain⟨hv1,hv2,hv3⟩:=(h.ev v).cells hk
      split at hx
      ·rename_i hone
       have hone':=qat hone
       have hhas:T.has t=true:=by
        cases hq:T.has t with
        |true=>rfl
        |false=>
         have:T.ty t= .other:=by
          unfold Tab.has at hq
          split at hq
          ·assumption
          ·cases hq
         rw[T.size_eq,this] at hone'
         simp[Ty.zs] at hone'
       obtain⟨c,tt,hc,hs,h1,hR⟩:=h.rel.obj ob b hb
       obtain⟨hsr,_,_⟩:=xah hT hhas w
       have hvl:(a.eval v).cells.toList.length=(AM.ev T env v).cells.length:=by rw[Array.length_toList];exact hv1
       have hpos:S.row ob≠[]:=by
        intro e
        rw[e] at hle'
        simp at hle'
        omega
       have hst:=run_storeCells_at P b off tt (a.eval v).cells.toList 0 c w hc (by omega) hv2
       refine⟨_,_,hx,?_,h.write hb hc hvl (by rw[hcl];exact hle') hpos hv2 hv3⟩
       have hrun:(storeVar t ⟨b,off,none⟩ (a.eval v)).run P w= .ok () (w.setRow b (c.toList.take off++(a.eval v).cells.toList++c.toList.drop (off+(a.eval v).cells.toList.length)).toArray):=by
        unfold storeVar
        simp only[Sem.run_bind,hsr,Result.andThen_ok]
        rw[if_neg (by rw[hv1,hcl];simp)]
        simpa using hst
       simp only[execOp,ho,hxx,Instr.storeAt,Sem.run_bind,Instr.sureAddr,Sem.run_pure,Result.andThen_ok,hrun]
      ·split at hx
       ·rename_i hnil
        split at hx
        ·rename_i hhas
         obtain⟨hsr,_,_⟩:=xah hT hhas w
         refine⟨_,w,hx,?_,h⟩
         rw[hnil] at hv1 hcl
         have hcells:(a.eval v).cells= #[]:=Array.eq_empty_of_size_eq_zero (by simpa using hv1)
         have hz:T.size t=0:=by rw[← hcl];rfl
         have hrun:(storeVar t ⟨b,off,none⟩ (a.eval v)).run P w= .ok () w:=by
          unfold storeVar
          simp[hsr,hcells,hz,storeCells]
         simp only[execOp,ho,hxx,Instr.storeAt,Sem.run_bind,Instr.sureAddr,Sem.run_pure,Result.andThen_ok,hrun]
        ·exact hx.elim
       ·exact hx.elim
    ·exact hx.elim
   ·exact hx.elim
  ·exact hx.elim
 ·exact hx.elim
theorem qeo{x y:Operand}{c:Call}(hargs:c.args.toList=[x,y]):c.args= #[x,y]:=by
 rw[← Array.toArray_toList (xs:=c.args),hargs]
omit hT h in
theorem xbk:∀(l:List Int) (k:Nat),vy l k (qu l k)=l
 | [],k=>rfl
 |v::l,0=>rfl
 |v::l,k+1=>by simp[vy,qu,xbk l k]
omit hT h in
theorem yd1{p b:Nat}(hr:real.room (p:Int) b=true):p * b≤140737488355328:=by
 have h1:(p:Int) * (b:Int)≤140737488355328:=of_decide_eq_true hr
 have h2:((p * b:Nat):Int)=(p:Int) * (b:Int):=Int.natCast_mul _ _
 omega
theorem va9{t e:TypeId}{i:TypeInfo}(ty:TypeId)(ht:P.underlying t=some (.slice e))(hi:P.info? e=some i)(base:Option Addr)(n cap:Nat)(hc:n≤cap)(ad:Option Addr)(c2:Nat)(w:World) :
 (Builtin.append_ #[t,t] ty #[.slice base n cap,.slice ad 0 c2]).run P w= .ok (.slice base n cap) w:=by
 have h1:(Builtin.firstCells i.size 0 (.slice ad 0 c2)).run P w= .ok #[] w:=by
  cases ad<;>simp[Builtin.firstCells,loadCells,loadCellsFrom]
 cases base<;>simp[Builtin.append_,run_underlying ht,sizeOf,run_typeInfo w hi,Builtin.lenOf,hc,h1,storeCells]
structure Apps (P:Program) (w:World) (t u e:TypeId) (i:TypeInfo) (z:Value) (n:Nat) (M:List Value) (uy:Value):Prop where
 empty:n=0→∀ ty (ad:Option Addr) k cap,k≤cap→(Builtin.append_ #[t,u] ty #[.slice ad k cap,uy]).run P w= .ok (.slice ad k cap) w
 nil:∀ ty,0<n→(n:Int)≤9223372036854775807→n * i.bytes≤281474976710656→(Builtin.append_ #[t,u] ty #[.slice none 0 0,uy]).run P w =
  .ok (.slice (some ⟨w.heap.size,0,none⟩) n (grownCap w n 0 e)) (w.drew.alloc (.cells (M.toArray++Builtin.zeroCells z.cells (grownCap w n 0 e-n)) e))
 grow:∀ ty (b:Addr) (sLen sCap:Nat) (olds:List Value),olds.length=sLen * i.size→(∀ j v,olds[j]? =some v→w.cell? (b.add j)=some v)→sCap<sLen+n→((sLen+n:Nat):Int)≤9223372036854775807 →
  Builtin.nextslicecap (sLen+n) sCap * i.bytes≤281474976710656→(Builtin.append_ #[t,u] ty #[.slice (some b) sLen sCap,uy]).run P w =
  .ok (.slice (some ⟨w.heap.size,0,none⟩) (sLen+n) (grownCap w (sLen+n) sCap e))
   (w.drew.alloc (.cells (olds.toArray++M.toArray++Builtin.zeroCells z.cells (grownCap w (sLen+n) sCap e-(sLen+n))) e))
 room:∀ ty (g sLen sCap:Nat) (cur:Array Value),0<n→w.heap[g]? =some (.cells cur e (0,0))→(∀ v ∈ M,v.oneCell'=true)→sLen+n≤sCap→sLen * i.size+M.length≤cur.size →
  (Builtin.append_ #[t,u] ty #[.slice (some ⟨g,0,none⟩) sLen sCap,uy]).run P w =
  .ok (.slice (some ⟨g,0,none⟩) (sLen+n) sCap) (w.setRow g (cur.toList.take (sLen * i.size)++M++cur.toList.drop (sLen * i.size+M.length)).toArray)
theorem qaz(N:Nat)(t u oty:TypeId)(x:Operand)(e2:TypeId)(ys:List AV)(m2:Mode)(uy:Value){K:AV→St→Prop}(hx:qaq (pAlg P T N) T t (AM.ev T env x) (.slice e2 ys m2) S K)
 (happs:∀ i z,P.underlying t=some (.slice e2)→P.info? e2=some i→i.zero=some z→T.ty t= .slice e2→1≤T.size e2→∃ M,Flat T w g e2 ys M∧Apps P w t u e2 i z ys.length M uy) :
 ∃ v S' x' w' g',K v S'∧(Builtin.append_ #[t,u] oty #[a.eval x,uy]).run P w= .ok x' w'∧Inv T C g' env S' a w'∧Rep T w' g' v x':=by
 have hrun:∀ ux v w',a.eval x=ux→(Builtin.append_ #[t,u] oty #[ux,uy]).run P w= .ok v w'→(Builtin.append_ #[t,u] oty #[a.eval x,uy]).run P w= .ok v w':=by
  intro ux v w' hux hv
  rw[hux];exact hv
 unfold qaq at hx
 split at hx
 ·rename_i e ht
  split at hx
  ·rename_i hhas
   split at hx
   ·rename_i hone hone2
    have hsz:=qat hone
    have hbz:=qat hone2
    split at hx
    ·rename_i e1 cs m e2' ys' m2' hpx hpy
     simp only[AV.slice.injEq] at hpy
     obtain⟨rfl,rfl,rfl⟩:=hpy
     split at hx
     ·rename_i he2
      have he2':e2=e:=Nat.eq_of_beq_eq_true he2
      subst he2'
      obtain⟨hroom,hx⟩:=hx
      rw[hT.X] at hroom hx
      have hroom':(cs.length+ys.length) * T.bytes e2≤140737488355328:=by
       have hq:(cs++ys).length * T.bytes e2≤140737488355328:=yd1 hroom
       rwa [List.length_append] at hq
      obtain⟨d,hd,hsh⟩:=vh hT h ht (by simp)
      have:=yu hsh;subst this
      obtain⟨i,z,d',hi,hd',hsi,hz,hzs,hb,hsh',ha⟩:=(yaj hT hhas).row
      have hisz:i.size=T.size e2:=by rw[hsi,T.size_eq]
      obtain⟨adx,capx,ex,hcapx,hrx⟩:=zbe hT h hpx
      obtain⟨M,hM,hY⟩:=happs i z hd hi hz ht hsz
      have hMl:M.length=ys.length * i.size:=by rw[hM.len,hisz]
      have hlen1:cs.length+ys.length≤140737488355328:=Nat.le_trans (Nat.le_mul_of_pos_right _ hbz) hroom'
      have hmaxl:cs.length+ys.length≤maxLen:=Nat.le_trans hlen1 (by simp[maxLen])
      have happ:∀ p q:List AV,real.app p q=p++q:=fun _ _=>rfl
      have hrlen:∀ p:List AV,real.len p=(p.length:Int):=fun _=>rfl
      rw[xdp] at hx
      have hkfree:∀ t0,g.τ S.caps.length=some t0→t0.e=e2∧t0.n<(cs++ys).length:=fun t0 e0=>absurd (h.rel.tok _ _ e0).1 (Nat.lt_irrefl _)
      have fresh:∀(L:List Value) (k:Nat) (caps:List Int),Flat T w g e2 cs L→(∀ t0,g.τ k=some t0→t0.e=e2∧t0.n<(cs++ys).length)→(k<caps.length∧S.caps.length≤caps.length) →
       (∀ i,qu caps i=if i=k then ((cs++ys).length:Int) else qu S.caps i) →
       ∃ g',Inv T C g' env { S with caps:=caps } a (w.drew.alloc (.cells (L.toArray++M.toArray++Builtin.zeroCells z.cells (grownCap w (cs.length+ys.length) capx e2-(cs.length+ys.length))) e2)) ∧
        Rep T (w.drew.alloc (.cells (L.toArray++M.toArray++Builtin.zeroCells z.cells (grownCap w (cs.length+ys.length) capx e2-(cs.length+ys.length))) e2)) g' (.slice e2 (cs++ys) (.own k))
         (.slice (some ⟨w.heap.size,0,none⟩) (cs.length+ys.length) (grownCap w (cs.length+ys.length) capx e2)):=by
       intro L k caps hL hk hlen hcapk
       have hge:=grownCap_ge w (cs.length+ys.length) capx e2
       have hcm:=grownCap_le_maxLen w (cs.length+ys.length) capx e2 hmaxl
       have hLM:=hL.append hM
       have hzsz:z.cells.size=T.size e2:=by rw[← Array.length_toList,hzs,T.size_eq];simp
       have:=ydr hT h hLM hsz (Builtin.zeroCells z.cells (grownCap w (cs.length+ys.length) capx e2-(cs.length+ys.length))) (grownCap w (cs.length+ys.length) capx e2)
        (by rw[List.length_append];exact hge) hcm (by
          simp only[Array.size_append,List.size_toArray,size_zeroCells,hzsz,hLM.len,List.length_append,← Nat.add_mul]
          congr 1
          omega) k hk caps hlen hcapk
       simpa[List.length_append] using this
      have hsnoc:(cs++ys).length=cs.length+ys.length:=List.length_append
      by_cases hy0:ys=[]
      ·subst hy0
       have hemp:=hY.empty rfl oty adx cs.length capx hcapx
       have hrun':=hrun _ _ w ex hemp
       cases m with
       |no=>exact hx.elim
       |exact=>
        cases cs with
        |cons v l=>
         dsimp only at hx
         split at hx
         ·have:(0:Int)<0:=by simpa[real,vb] using hx.1
          omega
         ·exact hx.elim
        |nil=>
         cases hrx with
         |slice _ _ _ _ _ _ b base xs hcap hmax hm ho' ha2 hf hc h1 hD hR=>
          obtain⟨hcap0,hadn⟩:=hm rfl
          have hadx:=hadn rfl
          subst hadx
          have hcap0':capx=0:=by simpa using hcap0
          subst hcap0'
          let tk:Tok:={ e:=e2,v:= .slice none 0 0,n:=0 }
          have hnk:g.τ S.caps.length=none:=by
           cases hq:g.τ S.caps.length with
           |none=>rfl
           |some t0=>exact absurd (h.rel.tok _ _ hq).1 (Nat.lt_irrefl _)
          have hkk:∀ t0,g.τ S.caps.length=some t0→tk.e=t0.e∧(tk=t0∨t0.n<tk.n):=fun t0 e0=>by rw[hnk] at e0;cases e0
          have hrel:=h.rel.setTok S.caps.length tk (zad S.caps (real.len (real.app [] []))) hkk ⟨by rw[zao];omega,by rw[zao];omega⟩
           (fun i=>by rw[xav];rfl) ⟨[],.inr ⟨by simp[tk],.inl ⟨rfl,rfl⟩⟩,fun b hb=>by simp[tk,Value.ownBlock] at hb⟩ (fun i ti b _ _ _ hb=>by simp[tk,Value.ownBlock] at hb)
          have hkt:=qac (w:=w) hkk
          refine⟨_,_,_,w,setTok g S.caps.length tk,hx,hrun',h.step hrel ⟨rfl,rfl,rfl,Nat.le_refl _,hkt,fun _ _ _=>rfl,fun _ _ hD=> .inl hD⟩ h.ob (fun i ti b e0 hb=>?_) (fun _ _ q=> .inl q) (Nat.le_refl _),?_⟩
          ·by_cases hik:i=S.caps.length
           ·subst hik
            simp only[setTok,if_true,Option.some.injEq] at e0
            subst e0
            simp[tk,Value.ownBlock] at hb
           ·simp only[setTok,if_neg hik] at e0
            exact h.tb i ti b e0 hb
          ·refine .slice _ e2 [] (.own S.caps.length) none 0 0 0 (fun _ _=>Go.undef) (by simp) (by simp[maxLen]) (by simp) ?_ (by simp) (by simp) (by simp) (by simp) (by simp) (by simp)
           intro k hk
           simp only[Mode.own.injEq] at hk
           subst hk
           exact⟨tk,by simp[setTok],rfl,by simp,fun _=>rfl⟩
       |own k=>
        dsimp only at hx
        split at hx
        ·rename_i he1
         have he1':e1=e2:=Nat.eq_of_beq_eq_true he1
         subst he1'
         obtain⟨hcapq,hx⟩:=hx
         have hcapq':qu S.caps k=(cs.length:Int):=by simpa[real,vb] using hcapq
         have hsame:{ S with caps:=vy S.caps k (real.len (real.app cs [])) }=S:=by
          have:vy S.caps k (real.len (real.app cs []))=S.caps:=by
           rw[happ,hrlen,List.append_nil,← hcapq']
           exact xbk S.caps k
          rw[this]
         rw[hsame] at hx
         refine⟨_,_,_,w,g,hx,hrun',h,?_⟩
         rw[happ,List.append_nil]
         exact hrx
        ·exact hx.elim
      ·
       have hypos:0<ys.length:=List.length_pos_iff.2 hy0
       have h63:((cs.length+ys.length:Nat):Int)≤9223372036854775807:=by simp only[maxLen] at hmaxl;omega
       cases m with
       |no=>exact hx.elim
       |exact=>
        cases cs with
        |nil=>
         cases hrx with
         |slice _ _ _ _ _ _ b base xs hcap hmax hm ho' ha2 hf hc h1 hD hR=>
          obtain⟨hcap0,hadn⟩:=hm rfl
          have hadx:=hadn rfl
          subst hadx
          have hcap0':capx=0:=by simpa using hcap0
          subst hcap0'
          have hr:=hY.nil oty hypos (by simpa using h63) (by rw[hb];simp only[List.length_nil,Nat.zero_add] at hroom';omega)
          obtain⟨g',hI,hR'⟩:=fresh [] S.caps.length (zad S.caps (real.len (real.app [] ys))) ⟨by simp,by simp,by simp,by simp⟩ hkfree ⟨by rw[zao];omega,by rw[zao];omega⟩ (fun i=>by rw[xav];rfl)
          refine⟨_,_,_,_,g',hx,hrun _ _ _ ex hr,?_,?_⟩
          ·simpa using hI
          ·simpa[happ] using hR'
        |cons v l=>
         dsimp only at hx
         split at hx
         ·rename_i he1
          have he1':e1=e2:=Nat.eq_of_beq_eq_true he1
          subst he1'
          obtain⟨_,hx⟩:=hx
          obtain⟨_,L,hL,hLc⟩:=jcn hrx hsz
          obtain⟨bx,basex,hadx,hLcell,_⟩:=hLc (by simp)
          subst hadx
          have hcapx':capx=(v::l).length:=by
           cases hrx with
           |slice _ _ _ _ _ _ b base xs hcap hmax hm ho' ha2 hf hc h1 hD hR=>exact(hm rfl).1
          have hr:=hY.grow oty ⟨bx,basex,none⟩ ((v::l).length) capx L (by rw[hL.len,hisz]) (fun j u hu=>by rw[vai];exact hLcell j u hu) (by omega) h63 (growslice_fits (by omega) (by rw[hb];exact hroom'))
          obtain⟨g',hI,hR'⟩:=fresh L S.caps.length (zad S.caps (real.len (real.app (v::l) ys))) hL hkfree ⟨by rw[zao];omega,by rw[zao];omega⟩ (fun i=>by rw[xav];rfl)
          exact⟨_,_,_,_,g',hx,hrun _ _ _ ex hr,hI,hR'⟩
         ·exact hx.elim
       |own k=>
        dsimp only at hx
        split at hx
        ·rename_i he1
         have he1':e1=e2:=Nat.eq_of_beq_eq_true he1
         subst he1'
         obtain⟨hcapq,hx⟩:=hx
         have hcapq':qu S.caps k=(cs.length:Int):=by simpa[real,vb] using hcapq
         obtain⟨tk,htk,hte,hcsn,htv⟩:∃ tk,g.τ k=some tk∧tk.e=e1∧cs.length≤tk.n∧(cs.length=tk.n→tk.v= .slice adx cs.length capx):=by
          cases hrx with
          |slice _ _ _ _ _ _ b base xs hcap hmax hm ho' ha2 hf hc h1 hD hR=>exact ho' k rfl
         obtain⟨hkl,hkc,xs,hown,hblk⟩:=h.rel.tok k tk htk
         have hown:=hown.resolve_left (by rintro⟨q,_⟩;have:=hkc.symm.trans hcapq';omega)
         have htn:tk.n=cs.length:=by have:=hkc.symm.trans hcapq';omega
         have htv':=htv htn.symm
         have hset:∀ i,qu (vy S.caps k (real.len (real.app cs ys))) i=if i=k then ((cs++ys).length:Int) else qu S.caps i:=fun i=>by rw[vas _ _ _ _ hkl];rfl
         have hkk:∀ t0,g.τ k=some t0→t0.e=e1∧t0.n<(cs++ys).length:=fun t0 e0=>by
          have:tk=t0:=by have:=htk.symm.trans e0;simpa using this
          subst this
          exact⟨hte,by rw[hsnoc];omega⟩
         obtain⟨_,L,hL,hLc⟩:=jcn hrx hsz
         by_cases hroomq:cs.length+ys.length≤capx
         ·
          have hxs:=hown.2
          rw[htv'] at hxs
          rcases hxs with ⟨he,hn0⟩|⟨gb,cap',cur,he,_,hcur,hnc,hcm,hcs',htake⟩
          ·simp only[Value.slice.injEq] at he
           omega
          ·simp only[Value.slice.injEq] at he
           obtain⟨rfl,hlen',rfl⟩:=he
           rw[hte] at hcur hcs' htake
           have hLxs:cur.toList.take (cs.length * T.size e1)=L:=by
            by_cases hc0:cs=[]
            ·subst hc0
             have hL0:L=[]:=List.eq_nil_of_length_eq_zero (by rw[hL.len];simp)
             rw[hL0];simp
            ·obtain⟨bx,basex,hadx,hLcell,_⟩:=hLc hc0
             simp only[Option.some.injEq,Addr.mk.injEq] at hadx
             obtain⟨rfl,rfl,-⟩:=hadx
             apply List.ext_getElem?
             intro j
             by_cases hj:j<cs.length * T.size e1
             ·have hjl:j<L.length:=by rw[hL.len];exact hj
              rw[List.getElem?_take,if_pos hj,List.getElem?_eq_getElem hjl]
              have h1:=hLcell j L[j] (List.getElem?_eq_getElem hjl)
              simpa[World.cell?,hcur] using h1
             ·rw[List.getElem?_take,if_neg hj,List.getElem?_eq_none (by rw[hL.len];omega)]
           obtain⟨g',hI,hR'⟩:=jdr hT h htk hte htn (by rw[htv']) hcur hcs' hcm hLxs hL hM hsz hroomq hypos
           have hr:=hY.room oty gb cs.length capx cur hypos hcur hM.one hroomq
            (by rw[hMl,hisz,hcs',← Nat.add_mul];exact Nat.mul_le_mul_right _ hroomq)
           rw[hisz] at hr
           refine⟨_,_,_,_,g',hx,hrun _ _ _ ex hr,hI,?_⟩
           rw[hsnoc] at hR'
           exact hR'
         ·
          by_cases hc0:cs=[]
          ·subst hc0
           have hL0:L=[]:=List.eq_nil_of_length_eq_zero (by rw[hL.len];simp)
           subst hL0
           obtain⟨g',hI,hR'⟩:=fresh [] k (vy S.caps k (real.len (real.app [] ys))) hL hkk ⟨by rw[qao];exact hkl,by rw[qao];exact Nat.le_refl _⟩ hset
           have hxs:=hown.2
           rw[htv'] at hxs
           rcases hxs with ⟨he,hn0⟩|⟨gb,cap',cur,he,_⟩
           ·simp only[Value.slice.injEq] at he
            obtain⟨rfl,_,rfl⟩:=he
            have hr:=hY.nil oty hypos (by simpa using h63) (by rw[hb];simp only[List.length_nil,Nat.zero_add] at hroom';omega)
            refine⟨_,_,_,_,g',hx,hrun _ _ _ ex hr,?_,?_⟩
            ·simpa using hI
            ·simpa[happ] using hR'
           ·simp only[Value.slice.injEq] at he
            obtain⟨rfl,hlen',rfl⟩:=he
            have hr:=hY.grow oty ⟨gb,0,none⟩ (0) capx [] (by simp) (by simp) (by simpa using hroomq) (by simpa using h63) (growslice_fits (by simpa using hroomq) (by rw[hb];simpa using hroom'))
            exact⟨_,_,_,_,g',hx,hrun _ _ _ ex hr,hI,hR'⟩
          ·obtain⟨bx,basex,hadx,hLcell,_⟩:=hLc hc0
           subst hadx
           have hr:=hY.grow oty ⟨bx,basex,none⟩ (cs.length) capx L (by rw[hL.len,hisz]) (fun j u hu=>by rw[vai];exact hLcell j u hu) (by omega) h63 (growslice_fits (by omega) (by rw[hb];exact hroom'))
           obtain⟨g',hI,hR'⟩:=fresh L k (vy S.caps k (real.len (real.app cs ys))) hL hkk ⟨by rw[qao];exact hkl,by rw[qao];exact Nat.le_refl _⟩ hset
           exact⟨_,_,_,_,g',hx,hrun _ _ _ ex hr,hI,hR'⟩
        ·exact hx.elim
     ·exact hx.elim
    ·exact hx.elim
   ·exact hx.elim
  ·exact hx.elim
 ·exact hx.elim
theorem jda{t e:TypeId}{i:TypeInfo}{z:Value}(ht:P.underlying t=some (.slice e))(hi:P.info? e=some i)(hz:i.zero=some z){ys:List AV}{m2:Mode}{ad:Option Addr}{cap:Nat}
 (hisz:i.size=T.size e) (hry:Rep T w g (.slice e ys m2) (.slice ad ys.length cap)) (hsz:1≤T.size e):∃ M,Flat T w g e ys M∧Apps P w t t e i z ys.length M (.slice ad ys.length cap):=by
 obtain⟨_,M,hM,hMc⟩:=jcn hry hsz
 have hMl:M.length=ys.length * i.size:=by rw[hM.len,hisz]
 have hne:0<ys.length→∃ b:Addr,ad=some b∧∀ j v,M[j]? =some v→w.cell? (b.add j)=some v:=fun h0=>by
  obtain⟨by',basey,hady,hMcell,_⟩:=hMc (List.length_pos_iff.1 h0)
  exact⟨_,hady,fun j v hv=>by rw[vai];exact hMcell j v hv⟩
 refine⟨M,hM,fun h0 ty ad' k cap' hk=>?_,fun ty h0 h63 h48=>?_,fun ty b sLen sCap olds hlo holds hg h63 hfit=>?_,fun ty gb sLen sCap cur h0 hg h1 hroom hfit=>?_⟩
 ·rw[h0];exact va9 hT h ty ht hi ad' k cap' hk ad cap w
 ·obtain⟨b,rfl,hb⟩:=hne h0
  exact run_append_nil (P:=P) w t ty e i z ht hi hz b ys.length cap M hMl hb h0 h63 h48
 ·rcases Nat.eq_zero_or_pos ys.length with h0|h0
  ·have hM0:M=[]:=List.eq_nil_of_length_eq_zero (by rw[hMl,h0];simp)
   subst hM0
   have hn:¬ (sLen+ys.length≤sCap):=by omega
   have h63':¬ (9223372036854775807<((sLen:Int)+(ys.length:Int))):=by omega
   have h48':¬ (281474976710656<Builtin.nextslicecap (sLen+ys.length) sCap * i.bytes):=by omega
   have hf:(Builtin.firstCells i.size 0 (.slice ad 0 cap)).run P w.drew= .ok #[] w.drew:=by
    cases ad<;>simp[Builtin.firstCells,loadCells,loadCellsFrom]
   have hfo:=run_firstCells_some (P:=P) w.drew i.size sLen b sLen sCap olds hlo (by simpa using holds)
   rw[h0] at hn h63' h48' ⊢
   simp only[Nat.add_zero] at hn h63' h48' ⊢
   have h63'':¬ (9223372036854775807<(sLen:Int)):=by omega
   simp[Builtin.append_,run_underlying ht,sizeOf,typeInfo,zeroValue,hi,hz,Builtin.lenOf,hn,h63'',h48',Question.forced,hf,hfo,newRow,grownCap]
  ·obtain⟨b',rfl,hb⟩:=hne h0
   exact run_append_grow (P:=P) w t ty e i z ht hi hz b sLen sCap olds hlo holds b' ys.length cap M hMl hb hg h63 hfit
 ·obtain⟨b',rfl,hb⟩:=hne h0
  exact run_append_room (P:=P) w t ty e i ht hi gb sLen sCap cur hg b' ys.length cap M hMl hb h1 hroom hfit
theorem jcp{t u e:TypeId}{i:TypeInfo}(ht:P.underlying t=some (.slice e))(hu:P.underlying u=some .string)(hi:P.info? e=some i){z:Value}(hz:i.zero=some z)(hs1:i.size=1)(s:List UInt8) :
 Apps P w t u e i z s.length (Lib.strCells ⟨s.toArray⟩) (.string ⟨s.toArray⟩):=by
 have hsz:(⟨s.toArray⟩:ByteArray).size=s.length:=by simp[ByteArray.size]
 have hl:=Lib.strCells_length ⟨s.toArray⟩
 refine⟨fun h0 ty ad' k cap' hk=>?_,fun ty h0 h63 h48=>?_,fun ty b sLen sCap olds hlo holds hg h63 hfit=>?_,fun ty gb sLen sCap cur h0 hg h1 hroom hfit=>?_⟩
 ·have hf:=Lib.run_firstCells_string (P:=P) w 1 ⟨s.toArray⟩
  have hn:Lib.strCells ⟨s.toArray⟩=[]:=List.eq_nil_of_length_eq_zero (by rw[hl,hsz];exact h0)
  rw[hsz,h0,hn] at hf
  cases ad'<;>simp[Builtin.append_,run_underlying ht,run_underlying hu,sizeOf,typeInfo,hi,hs1,Builtin.lenOf,hk,hsz,h0,hf,storeCells]
 ·have hr:=run_append_nil_string (P:=P) w t u ty e i z ht hu hi hz ⟨s.toArray⟩ (by omega) (by omega) (by rw[hsz];exact h48)
  have e1:((⟨s.toArray⟩:ByteArray).data.map fun b=>Value.int .u8 b.toNat)=(Lib.strCells ⟨s.toArray⟩).toArray:=by
   apply Array.ext'
   simp[Lib.strCells]
  rw[e1,hsz] at hr
  exact hr
 ·have hr:=Lib.run_append_grow_string (P:=P) w t u ty e i z ht hu hi hz b sLen sCap olds hlo holds ⟨s.toArray⟩ (by omega) (by rw[hsz];exact h63) (by rw[hsz];exact hfit)
  rw[hsz] at hr
  exact hr
 ·rw[hl,hsz] at hfit
  have hr:=Lib.run_append_room_string (P:=P) w t u ty e i ht hu hi hs1 gb sLen sCap cur hg ⟨s.toArray⟩ (by omega) (by rw[hs1] at hfit;omega)
  rw[hl,hs1,Nat.mul_one]
  rw[hsz] at hr ⊢
  exact hr
theorem zcn{e:TypeId}(he:T.ty e= .int .u8)(s:List UInt8):Flat T w g e (real.avs s) (Lib.strCells ⟨s.toArray⟩):=by
 have hsz:T.size e=1:=by rw[T.size_eq,he];rfl
 have hag:T.agg e=false:=by unfold Tab.agg;rw[he]
 have hl:(Lib.strCells ⟨s.toArray⟩).length=s.length:=by rw[Lib.strCells_length];simp[ByteArray.size]
 have hn:∀ i,i<s.length→nth (real.avs s) i= .int .u8 ((s.getD i 0).toNat:Int):=fun i hi=>by
  rw[nth_eq]
  simp[real,List.getD_eq_getElem?_getD,hi]
 refine⟨by rw[hl,hsz];simp[real],Lib.strCells_oneCell _,fun i hi=>?_,fun i j hi hj=>?_⟩
 ·have hi':i<s.length:=by simpa[real] using hi
  rw[hn i hi']
  exact .inr ⟨hag,hsz,rfl⟩
 ·have hi':i<s.length:=by simpa[real] using hi
  rw[hsz] at hj ⊢
  have:j=0:=by omega
  subst this
  rw[hn i hi']
  have:(Lib.strCells ⟨s.toArray⟩).getD (i * 1+0) undef= .int .u8 ((s.getD i 0).toNat:Int):=by
   simp[Lib.strCells,List.getD_eq_getElem?_getD,hi']
  rw[this]
  exact .int ..
theorem zb3(N:Nat)(o:Oper)(c:Call)(ho:o.op= .call c)(hcal:c.callee= .builtin .append){Pa K:AV→St→Prop}(hx:xeff (pAlg P T N) T env S o.op Pa K) :
 ∃ v S' x' w' g',K v S'∧(execOp a.eval o).run P w= .ok (.value x') w'∧Inv T C g' env S' a w'∧Rep T w' g' v x':=by
 rw[ho] at hx
 simp only[xeff,hcal] at hx
 split at hx
 ·rename_i x y t u hargs htys
  have hrun:∀ v w',(Builtin.append_ #[t,u] o.type #[a.eval x,a.eval y]).run P w= .ok v w'→(execOp a.eval o).run P w= .ok (.value v) w':=by
   intro v w' hv
   have h1:c.args= #[x,y]:=qeo hT h hargs
   have h2:c.argTypes= #[t,u]:=by rw[← Array.toArray_toList (xs:=c.argTypes),htys]
   simp[execOp,ho,resolve,hcal,invoke,builtin,h1,h2,hv]
  split at hx
  ·rename_i htu
   have htu':t=u:=Nat.eq_of_beq_eq_true htu
   subst htu'
   by_cases hy:∃ e2 ys m2,AM.ev T env y= .slice e2 ys m2
   ·obtain⟨e2,ys,m2,hpy⟩:=hy
    obtain⟨ady,capy,ey,hcapy,hry⟩:=zbe hT h hpy
    rw[hpy] at hx
    obtain⟨v,S',x',w',g',hk,hr,hI,hv⟩:=qaz hT h N t t o.type x e2 ys m2 (a.eval y) hx (by
     intro i z hd hi hz hty hsz
     have hhas:T.has e2=true:=by
      cases hq:T.has e2 with
      |true=>rfl
      |false=>
       have:T.ty e2= .other:=by
        unfold Tab.has at hq
        split at hq
        ·assumption
        ·cases hq
       rw[T.size_eq,this] at hsz
       simp[Ty.zs] at hsz
     obtain⟨i',z',d',hi',hd',hsi,hz',hzs,hb,hsh',ha⟩:=(yaj hT hhas).row
     have:i=i':=by have:=hi.symm.trans hi';simpa using this
     subst this
     rw[ey]
     exact jda hT h hd hi hz (by rw[hsi,T.size_eq]) hry hsz)
    exact⟨v,S',x',w',g',hk,hrun _ _ hr,hI,hv⟩
   ·exfalso
    unfold qaq at hx
    split at hx
    ·split at hx
     ·split at hx
      ·split at hx
       ·rename_i hpx hpy
        exact hy ⟨_,_,_,hpy⟩
       ·exact hx
      ·exact hx
     ·exact hx
    ·exact hx
  ·split at hx
   ·rename_i s htu hpy
    split at hx
    ·rename_i e hte
     split at hx
     ·rename_i hee
      rw[hT.X] at hx
      have hey:a.eval y= .string ⟨s.toArray⟩:=by
       have hq:=h.ev y
       rw[hpy] at hq
       generalize a.eval y=uy at hq
       cases hq
       rfl
      obtain⟨du,hdu,hsu⟩:=vh hT h htu (by simp)
      have:=yab hsu;subst this
      have hlen:(real.avs s).length=s.length:=by simp[real]
      obtain⟨v,S',x',w',g',hk,hr,hI,hv⟩:=qaz hT h N t u o.type x e (real.avs s) .no (a.eval y) hx (by
       intro i z hd hi hz hty hsz
       obtain⟨i',z',d',hi',hd',hsi,hz',hzs,hb,hsh',ha⟩:=(yaj hT (t:=e) (by unfold Tab.has;rw[hee])).row
       have:i=i':=by have:=hi.symm.trans hi';simpa using this
       subst this
       rw[hee] at hsi
       refine⟨_,zcn hT h hee s,?_⟩
       rw[hey,hlen]
       exact jcp hT h hd hdu hi hz (by rw[hsi];rfl) s)
      exact⟨v,S',x',w',g',hk,hrun _ _ hr,hI,hv⟩
     ·exact hx.elim
    ·exact hx.elim
   ·exact hx.elim
 ·exact hx.elim
end
end
end Go.AM
namespace Go.AM
section
variable {P:Program} {T:Tab} {C:Ctx} {g:Ghost} {env:Env} {S:St} {a:Act} {w:World}
variable (hT:TabOk P T) (h:Inv T C g env S a w)
include hT h
theorem yax{g':Ghost}{S':St}{w':World}(r:WRel T g' S' w')(e:Ext (qj g) g w g' w')(hb:∀ b,qj g' b→qj g b∨w.heap.size≤b)
 (nm:∀ o b,g'.ρ o=some b→g.ρ o=some b∨S.next≤o) (nx:S.next≤S'.next):Inv T C g' env S' a w':=by
 have ht:∀ b,qj g b→C.touch b∨C.w0.heap.size≤b:=by
  rintro b (⟨o,ho⟩|⟨k,tk,hk,hb⟩)
  ·exact h.ob o b ho
  ·exact h.tb k tk b hk hb
 have ht':∀ b,qj g' b→C.touch b∨C.w0.heap.size≤b:=fun b q=>by
  rcases hb b q with q|q
  ·exact ht b q
  ·exact .inr (Nat.le_trans h.ext.size q)
 exact h.step r (e.mono fun b q=> .inl (ht b q)) (fun o b q=>ht' b (.inl ⟨o,q⟩)) (fun k tk b q q'=>ht' b (.inr ⟨k,tk,q,q'⟩)) nm nx
theorem qcy(l:List Operand):zk T w g (evs T env l) (l.map a.eval):=by
 refine⟨by simp[jbt],fun j hj=>?_⟩
 rw[jbt] at hj ⊢
 have hj':j<l.length:=by simpa using hj
 rw[nth_eq]
 simp only[List.getD_eq_getElem?_getD,List.getElem?_map,List.getElem?_eq_getElem hj',Option.map_some,Option.getD_some]
 exact h.ev _
omit hT h in
theorem zk.append{p q:List AV}{x y:List Value}(hp:zk T w g p x)(hq:zk T w g q y):zk T w g (p++q) (x++y):=by
 obtain⟨h1,h2⟩:=hp
 obtain⟨h3,h4⟩:=hq
 refine⟨by simp[h1,h3],fun j hj=>?_⟩
 rw[nth_eq]
 by_cases hlt:j<p.length
 ·have:=h2 j hlt
  rw[nth_eq] at this
  simp only[List.getD_eq_getElem?_getD] at this ⊢
  rwa [List.getElem?_append_left hlt,List.getElem?_append_left (by omega)]
 ·have:=h4 (j-p.length) (by simp at hj;omega)
  rw[nth_eq] at this
  simp only[List.getD_eq_getElem?_getD] at this ⊢
  rwa [List.getElem?_append_right (by omega),List.getElem?_append_right (by omega),h1]
theorem vb1(N:Nat)(o:Oper){Pa K:AV→St→Prop}(hx:xop (pAlg P T N) T env S o.op Pa K)(next:Act→World→Prop)(Q:Exit→Act→World→Prop)
 (hK:∀ v S' x g' w',K v S'→Inv T C g' env S' a w'→Rep T w' g' v x→next (a.put o.dst x) w')
 (hP:∀ v S' x g' w',Pa v S'→Inv T C g' env S' a w'→Rep T w' g' v x→Q (.panic [{ v:=x,recovered:=false }]) a w') :
 o.wp P a w next Q:=by
 have hs:=zbc hT h o
 unfold xop at hx
 unfold Oper.wp
 split at hx
 ·rename_i v hp
  rw[hp] at hs
  obtain⟨x,w',g',hr,hg,hv⟩:=hs
  rw[hr]
  exact hK v S x g' w' hx (h.grow hg) hv
 ·rename_i b v hp
  rw[hp] at hs
  obtain⟨x,w',g',hr,hg,hv⟩:=hs hx.1
  rw[hr]
  exact hK v S x g' w' hx.2 (h.grow hg) hv
 ·rename_i row hp
  rw[hp] at hs
  obtain⟨c,t,hr,hs,h1,hR⟩:=hs
  rw[hr]
  obtain⟨g',hI,hk,hv⟩:=h.new (t:=t) hs h1 hR
  exact hK _ _ _ g' _ hx hI hv
 ·cases ho:o.op with
  |store t x v=>
   obtain⟨S',w',hk,hr,hI⟩:=xcf hT h N o t x v ho hx
   rw[hr]
   exact hK _ _ _ g w' hk hI (.undef _ _)
  |panic x=>
   rw[ho] at hx
   simp only[xeff] at hx
   split at hx
   ·rename_i t v hp
    have hv:=h.ev x
    rw[hp] at hv
    generalize hxx:a.eval x=u at hv
    have:∃ t' u',u= .iface t' u':=by cases hv;exact⟨_,_,rfl⟩
    obtain⟨t',u',rfl⟩:=this
    have hr:(execOp a.eval o).run P w= .halt (.panic (.iface t' u')) w:=by
     simp[execOp,ho,hxx,Instr.panic,goPanic]
    rw[hr]
    exact hP _ _ _ g w hx h hv
   ·exact hx.elim
  |call c=>
   cases hcal:c.callee with
   |builtin bi=>
    by_cases hb:bi= .append
    ·subst hb
     obtain⟨v,S',x',w',g',hk,hr,hI,hv⟩:=zb3 hT h N o c ho hcal hx
     rw[hr]
     exact hK v S' x' g' w' hk hI hv
    ·rw[ho] at hx
     simp only[xeff,hcal] at hx
     cases bi<;>first|exact absurd rfl hb|exact hx.elim
   |value f=>
    rw[ho] at hx
    simp only[xeff,hcal] at hx
    split at hx
    ·rename_i fid p q hp
     have hv:=h.ev f
     rw[hp] at hv
     generalize hxx:a.eval f=u at hv
     cases hv with
     |func _ _ _ _ fs cs h1 h2 hf hc=>
      have hargs:zk T w g (p++(evs T env c.args.toList++q)) (fs++(c.args.toList.map a.eval++cs)):=
       zk.append ⟨h1,hf⟩ (zk.append (qcy hT h _) ⟨h2,hc⟩)
      have hrun:(execOp a.eval o).run P w=(callFunc fid (fs++(c.args.toList.map a.eval++cs)).toArray).run P w:=by
       have he:(fs.toArray++c.args.map a.eval++cs.toArray)=(fs++(c.args.toList.map a.eval++cs)).toArray:=by
        apply Array.ext'
        simp
       simp[execOp,ho,resolve,hcal,hxx,Deferred.ofValue,invoke,← he]
      rw[hrun]
      have hpost:∀ x w',vj T g S w (fun o S'=>match o with| .ret v=>K v S'| .panic v=>Pa v S') (.returned x) w'→next (a.put o.dst x) w':=by
       rintro x w' ⟨out,S',g',hk,hor,hr,he,hb,nm,nx⟩
       cases out with
       |ret v=>exact hK v S' x g' w' hk (yax hT h hr he hb nm nx) hor
       |panic v=>exact hor.elim
      rcases hx g w _ h.rel (fun gl t e=>h.glob gl t e) hargs with ⟨hent,hcalls⟩|⟨x,w',hr,hp⟩
      ·rw[hent]
       refine Calls.mono hcalls ?_
       intro e w' hp
       cases e with
       |returned x=>exact hpost x w' hp
       |panicked chain=>
        obtain⟨out,S',g',hk,hor,hr,he,hb,nm,nx⟩:=hp
        cases out with
        |ret v=>exact hor.elim
        |panic v=>
         obtain⟨x,rfl,hv⟩:=hor
         exact hP v S' x g' w' hk (yax hT h hr he hb nm nx) hv
       |outgrown=>
        obtain⟨out,S',g',hk,hor,hr,he,hb,nm,nx⟩:=hp
        cases out<;>exact hor.elim
      ·rw[hr]
       exact hpost x w' hp
    ·exact hx.elim
   |invoke r n=>
    rw[ho] at hx
    simp only[xeff,hcal] at hx
    exact hx.elim
  |_=>rw[ho] at hx;exact hx.elim
end
end Go.AM
namespace Go.AM
def zcy(T:Tab)(env env':Env)(op:Op):Prop:=∀ x,x ∈ op.operands.toList→ev T env x=ev T env' x
theorem ya2{T:Tab}{env env':Env}:∀ {l:List Operand},(∀ x,x ∈ l→ev T env x=ev T env' x)→evs T env l=evs T env' l
 | [],_=>rfl
 |x::l,h=>by simp only[evs,h x (by simp),ya2 (l:=l) fun y hy=>h y (by simp[hy])]
theorem qbk{T:Tab}{env env':Env}:∀ {l:List (Nat × Operand)},(∀ x,x ∈ l.map (·.2)→ev T env x=ev T env' x)→elems T env l=elems T env' l
 | [],_=>rfl
 |(i,x)::l,h=>by simp only[elems,h x (by simp),qbk (l:=l) fun y hy=>h y (by simp[hy])]
theorem qa9{T:Tab}{env env':Env}{fs:List (Nat × Nat)}:∀ {l:List (Nat × Operand)} {cs:List AV},(∀ x,x ∈ l.map (·.2)→ev T env x=ev T env' x) →
 xaw T env fs l cs=xaw T env' fs l cs
 | [],cs,_=>rfl
 |(i,x)::l,cs,h=>by
  have hl:=fun cs=>qa9 (T:=T) (fs:=fs) (l:=l) (cs:=cs) fun y hy=>h y (by simp[hy])
  simp only[xaw,h x (by simp),hl]
theorem xz{T:Tab}{env env':Env}{S:St}{op:Op}(h:zcy T env env' op):yf T env S op=yf T env' S op:=by
 cases op with
 |move x=>simp only[yf,h x (by simp[Op.operands])]
 |assign x=>simp only[yf,h x (by simp[Op.operands])]
 |pick c x y=>simp only[yf,h c (by simp[Op.operands]),h x (by simp[Op.operands]),h y (by simp[Op.operands])]
 |alloc t=>rfl
 |box t x=>simp only[yf,h x (by simp[Op.operands])]
 |build t ps=>
  have h2:∀(cs:List AV) (fs:List (Nat × Nat)),xaw T env fs ps.toList cs=xaw T env' fs ps.toList cs:=fun cs fs=>qa9 fun x hx=>h x (by simpa[Op.operands] using hx)
  simp only[yf,h2]
 |buildSlice t n ps=>
  have h2:elems T env ps.toList=elems T env' ps.toList:=qbk fun x hx=>h x (by simpa[Op.operands] using hx)
  simp only[yf,h2]
 |load t x=>simp only[yf,h x (by simp[Op.operands])]
 |nilCheck x=>simp only[yf,h x (by simp[Op.operands])]
 |binOp op t x y t'=>simp only[yf,h x (by simp[Op.operands]),h y (by simp[Op.operands])]
 |unOp op t x=>simp only[yf,h x (by simp[Op.operands])]
 |convert s d x=>simp only[yf,h x (by simp[Op.operands])]
 |makeInterface t x=>simp only[yf,h x (by simp[Op.operands])]
 |typeAssert x xt t ok=>simp only[yf,h x (by simp[Op.operands])]
 |makeFunc f x y=>
  have h1:evs T env x.toList=evs T env' x.toList:=ya2 fun z hz=>h z (by simp[Op.operands] at hz ⊢;exact .inl hz)
  have h2:evs T env y.toList=evs T env' y.toList:=ya2 fun z hz=>h z (by simp[Op.operands] at hz ⊢;exact .inr hz)
  cases f<;>simp only[yf,h1,h2]
 |slice t x lo hi mx=>
  have hx:=h x (by simp[Op.operands])
  cases lo with
  |none=>cases hi with
   |none=>cases mx<;>simp only[yf,hx]
   |some b=>
    have hb:=h b (by simp[Op.operands])
    cases mx<;>simp only[yf,hx,hb]
  |some c=>
   have hc:=h c (by simp[Op.operands])
   cases hi with
   |none=>cases mx<;>simp only[yf,hx,hc]
   |some b=>
    have hb:=h b (by simp[Op.operands])
    cases mx<;>simp only[yf,hx,hc,hb]
 |fieldAddr t x f=>simp only[yf,h x (by simp[Op.operands])]
 |indexAddr t x i=>simp only[yf,h x (by simp[Op.operands]),h i (by simp[Op.operands])]
 |index t x i=>simp only[yf,h x (by simp[Op.operands]),h i (by simp[Op.operands])]
 |extract x i=>simp only[yf,h x (by simp[Op.operands])]
 |call c=>
  have ha:∀ x,x ∈ c.args.toList→ev T env x=ev T env' x:=fun x hx=>h x (by simp[Op.operands,Call.operands] at hx ⊢;exact .inr hx)
  simp only[yf]
  split
  ·split
   ·rename_i x t hargs _
    rw[hargs] at ha
    simp only[ha x (by simp)]
   ·rfl
  ·split
   ·rename_i x y hargs
    rw[hargs] at ha
    simp only[ha x (by simp),ha y (by simp)]
   ·rfl
  ·split
   ·rename_i x y hargs
    rw[hargs] at ha
    simp only[ha x (by simp),ha y (by simp)]
   ·rfl
  ·rfl
 |_=>rfl
section
variable {R:Type}
theorem jcy{A:Alg R}{T:Tab}{env env':Env}{S:St}{op:Op}{Pa K:AV→St→R}(h:zcy T env env' op):xeff A T env S op Pa K=xeff A T env' S op Pa K:=by
 cases op with
 |store t x v=>simp only[xeff,h x (by simp[Op.operands]),h v (by simp[Op.operands])]
 |panic x=>simp only[xeff,h x (by simp[Op.operands])]
 |call c=>
  have ha:∀ x,x ∈ c.args.toList→ev T env x=ev T env' x:=fun x hx=>h x (by simp[Op.operands,Call.operands] at hx ⊢;exact .inr hx)
  have h1:evs T env c.args.toList=evs T env' c.args.toList:=ya2 ha
  cases hc:c.callee with
  |builtin b=>
   cases b<;>try (simp only[xeff,hc])
   split
   ·rename_i x y t u hargs _
    rw[hargs] at ha
    simp only[ha x (by simp),ha y (by simp)]
   ·rfl
  |value f=>
   have hf:=h f (by simp[Op.operands,Call.operands,hc])
   simp only[xeff,hc,hf,h1]
  |invoke r n=>simp only[xeff,hc]
 |_=>rfl
theorem xdb{A:Alg R}{T:Tab}{env env':Env}{S:St}{op:Op}{Pa K:AV→St→R}(h:zcy T env env' op):xop A T env S op Pa K=xop A T env' S op Pa K:=by
 simp only[xop,xz h,jcy h]
end
theorem xa5:∀(l:List Oper) (n:Nat),opAt l n=l[n]?
 | [],n=>rfl
 |o::l,0=>rfl
 |o::l,n+1=>by simp[opAt,xa5 l n]
section
variable {P:Program} {T:Tab} {C:Ctx} {g:Ghost} {env:Env} {S:St} {a:Act} {w:World}
theorem ya3(h:Inv T C g env S a w){ops:Array Oper}{j:Nat}{b:Bool}(hy:ql ops.toList env j= .bool b):yielded ops a.tmps j=some b:=by
 simp only[ql,xa5,Array.getElem?_toList] at hy
 unfold yielded
 cases ho:ops[j]? with
 |none=>simp[ho] at hy
 |some o=>
  simp only[ho] at hy
  cases hd:o.dst with
  |none=>simp[hd] at hy
  |some d=>
   simp only[hd] at hy
   have:=h.tmp d
   rw[hy] at this
   generalize hx:a.tmps.getD d undef=x at this
   cases this
   have hlt:d<a.tmps.size:=by
    rcases Nat.lt_or_ge d a.tmps.size with hh|hh
    ·exact hh
    ·simp[Array.getD,Nat.not_lt.2 hh,undef] at hx
   simp[hd,hlt]
   simp[Array.getD,hlt] at hx
   rw[hx]
theorem xb1(h:Inv T C g env S a w){ops:Array Oper}{j:Nat}(hy:ql ops.toList env j= .tup []):yielded ops a.tmps j=none:=by
 simp only[ql,xa5,Array.getElem?_toList] at hy
 unfold yielded
 cases ho:ops[j]? with
 |none=>rfl
 |some o=>
  simp only[ho] at hy
  cases hd:o.dst with
  |none=>simp[hd]
  |some d=>
   simp only[hd] at hy
   have:=h.tmp d
   rw[hy] at this
   generalize hx:a.tmps.getD d undef=x at this
   cases this with
   |tup _ _ xs hl hR=>
    by_cases hlt:d<a.tmps.size
    ·simp[Array.getD,hlt] at hx
     simp[hd,hlt,hx]
    ·simp[hd,hlt]
def NotW(v:AV)(want:Bool):Prop:=v= .tup []∨v= .bool (!want)
theorem xa4(h:Inv T C g env S a w){ops:Array Oper}{o:Oper}{j:Nat}{want:Bool}{v:AV}(hg:o.guard=some (j,want))(hy:ql ops.toList env j=v)(hn:NotW v want):Region.wanted o (yielded ops a.tmps)=false:=by
 rcases hn with rfl|rfl
 ·simp[Region.wanted,hg,xb1 h hy]
 ·simp[Region.wanted,hg,ya3 h hy]
theorem qa0(T:Tab)(w:World)(g:Ghost):Rep T w g (.tup []) Go.undef:= .tup g [] [] rfl (by simp)
def zar(N:Nat):List Oper→Bool
 | []=>true
 |o::l=>(match o.dst with|some d=>Nat.blt d N|none=>true) && zar N l
theorem van{N:Nat}{l:List Oper}(h:zar N l=true)(o:Oper)(ho:o ∈ l)(t:Nat)(ht:o.dst=some t):t<N:=by
 induction l with
 |nil=>cases ho
 |cons p l ih=>
  simp only[zar,Bool.and_eq_true] at h
  rcases List.mem_cons.1 ho with rfl|hp
  ·rw[ht] at h
   exact nb h.1
  ·exact ih h.2 hp
def vbf(T:Tab)(C:Ctx)(Pa:AV→St→Prop)(K:Env→St→Prop)(Q:Exit→Act→World→Prop):Prop:=
 (∀ env S g a w,K env S→Inv T C g env S a w→Q .normal a w) ∧
 ∀ v S g a w env x,Pa v S→Inv T C g env S a w→Rep T w g v x→Q (.panic [{ v:=x,recovered:=false }]) a w
def xba(T:Tab)(C:Ctx)(Pa:Env→AV→St→Prop)(K:Env→St→Prop)(Q:Exit→Act→World→Prop):Prop:=
 (∀ env S g a w,K env S→Inv T C g env S a w→Q .normal a w) ∧
 ∀ v S g a w env x,Pa env v S→Inv T C g env S a w→Rep T w g v x→Q (.panic [{ v:=x,recovered:=false }]) a w
theorem vdx(hT:TabOk P T){ops:Array Oper}(hfit:zar C.n ops.toList=true){N:Nat}{Pa:Env→AV→St→Prop}{K:Env→St→Prop}{Q:Exit→Act→World→Prop}(hQ:xba T C Pa K Q) :
 ∀(l:List (Nat × Oper)) (env:Env) (S:St) (g:Ghost) (a:Act) (w:World),(∀ i o,(i,o) ∈ l→ops[i]? =some o)→Inv T C g env S a w →
  vaw (pAlg P T N) T ops.toList Pa K l env S→wpOps P ops Q (l.map (·.1)) a w:=by
 intro l
 induction l with
 |nil=>intro env S g a w _ h hx;exact hQ.1 env S g a w hx h
 |cons p l ih0=>
  intro env S g a w hl h hx
  obtain⟨i,o⟩:=p
  have hi:=hl i o (by simp)
  have hd:∀ t,o.dst=some t→t<C.n:=van hfit o (by
   rw[← Array.getElem?_toList] at hi
   exact List.mem_of_getElem? hi)
  have ih:=fun env S g a w=>ih0 env S g a w (fun i o h=>hl i o (by simp[h]))
  have hrun:(xop (pAlg P T N) T env S o.op (Pa env) fun v S'=>vaw (pAlg P T N) T ops.toList Pa K l (xi env o.dst v) S') →
   o.wp P a w (wpOps P ops Q (l.map (·.1))) Q:=fun hx=>
   vb1 hT h N o hx _ _ (fun v S' x g' w' hk hI hv=>ih _ _ g' _ w' (hI.put hv o.dst hd) hk) (fun v S' x g' w' hp hI hv=>hQ.2 v S' g' a w' env x hp hI hv)
  simp only[List.map_cons,wpOps,hi]
  simp only[vaw] at hx
  cases hg:o.guard with
  |none=>
   simp only[hg] at hx
   rw[if_pos (by simp[Region.wanted,hg])]
   exact .inl (hrun hx)
  |some jw=>
   obtain⟨j,want⟩:=jw
   simp only[hg] at hx
   split at hx
   ·rename_i b hb
    have hy:=ya3 (ops:=ops) h hb
    have hskip:vaw (pAlg P T N) T ops.toList Pa K l (xi env o.dst (.tup [])) S→wpOps P ops Q (l.map (·.1)) (a.put o.dst undef) w:=fun hx=>
     ih _ _ g _ w (h.put (qa0 _ _ _) o.dst hd) hx
    cases b<;>cases want<;>simp only at hx
    ·rw[if_pos (by simp[Region.wanted,hg,hy])];exact .inl (hrun hx)
    ·rw[if_neg (by simp[Region.wanted,hg,hy])];exact hskip hx
    ·rw[if_neg (by simp[Region.wanted,hg,hy])];exact hskip hx
    ·rw[if_pos (by simp[Region.wanted,hg,hy])];exact .inl (hrun hx)
   ·rename_i hb
    rw[if_neg (by rw[xa4 h hg hb (.inl rfl)];simp)]
    exact ih _ _ g _ w (h.put (qa0 _ _ _) o.dst hd) hx
   ·exact hx.elim
theorem ybr:∀(l:List Oper) (n:Nat),(number n l).map (·.1)=List.range' n l.length
 | [],n=>rfl
 |o::l,n=>by simp[number,ybr l (n+1),List.range'_succ]
theorem vbr:∀(l:List Oper) (n i:Nat) (o:Oper),(i,o) ∈ number n l→n≤i∧l[i-n]? =some o
 | [],n,i,o,h=>by simp[number] at h
 |p::l,n,i,o,h=>by
  simp only[number,List.mem_cons,Prod.mk.injEq] at h
  rcases h with ⟨rfl,rfl⟩|h
  ·simp
  ·obtain⟨h1,h2⟩:=vbr l (n+1) i o h
   refine⟨by omega,?_⟩
   have:i-n=(i-(n+1))+1:=by omega
   rw[this]
   simpa using h2
theorem vc1(hT:TabOk P T){ops:Array Oper}(hfit:zar C.n ops.toList=true){N id:Nat}{Pa:Env→AV→St→Prop}{K:Env→St→Prop}{Q:Exit→Act→World→Prop}(hQ:xba T C Pa K Q)
 (h:Inv T C g env S a w) (hx:vaw (pAlg P T N) T ops.toList Pa K (number 0 ops.toList) env S):(Code.region id ops false).wp P Q a w:=by
 refine wp_region ?_
 have:=vdx hT hfit hQ (number 0 ops.toList) env S g a w (fun i o hm=>by
  obtain⟨_,h2⟩:=vbr _ _ _ _ hm
  simpa using h2) h hx
 rw[ybr] at this
 simpa[List.range_eq_range'] using this
end
end Go.AM
namespace Go.AM
def zah:Op→Bool
 |.store .. =>true
 |.panic _=>true
 |.call c=>match c.callee with
  |.builtin .len=>false
  |_=>true
 |_=>false
def qc0:Op→Bool
 |.load .. =>false
 |.alloc _=>false
 |.box .. =>false
 |_=>true
def qad(o:Oper):List Nat:=o.after.toList.filterMap fun e=>match Region.binds .any e with|true=>some e.on|false=>none
def jag:List Nat→Nat→Nat→Bool
 | [],_,_=>false
 |m::_,0,q=>m.testBit q
 |_::l,i+1,q=>jag l i q
def zet(acc:List Nat):List Nat→Nat
 | []=>0
 |e::l=>2 ^ e ||| acc.getD e 0 ||| zet acc l
def ybh:List Oper→List Nat→List Nat
 | [],acc=>acc
 |o::l,acc=>ybh l (acc++[zet acc (qad o)])
def zdm(ops:List Oper)(m:List Nat)(i q:Nat):Bool:=
 !jag m i q || match ops[i]? with
  |some o=>(qad o).any fun e=>Nat.beq e q || (Nat.blt e i && jag m e q)
  |none=>false
def xc7(o:Oper)(t:Tmp):Bool:=match o.dst with
 |some d=>Nat.beq d t
 |none=>false
def zcu(ops:List Oper)(o:Oper):List Tmp:=match o.guard with
 |some (j,_)=>match ops[j]? with
  |some p=>match p.dst with
   |some d=>[d]
   |none=>[]
  |none=>[]
 |none=>[]
def jet(o:Oper):List Tmp:=o.op.operands.toList.filterMap fun| .tmp t=>some t|_=>none
def looks(ops:List Oper)(o:Oper):List Tmp:=jet o++zcu ops o
def qd9(ops:List Oper)(e:Nat):Bool:=match ops[e]? with
 |some o=>zah o.op
 |none=>false
def jdd(ops:List Oper)(fl:List (Nat × List Nat))(m:List Nat)(pre:List Nat)(i:Nat)(post:List Nat):Bool:=
 match ops[i]? with
 |none=>false
 |some o=>
  !pre.contains i &&
  ((qad o).all fun e=>pre.contains e) &&
  ((looks ops o).all fun t=> !xc7 o t && (List.range ops.length).all fun q=>match ops[q]? with
    |some p=> !xc7 p t || jag m i q || (post.contains q && (post.takeWhile fun x=> !Nat.beq x q).any fun e=>qd9 ops e && jag m e i)
    |none=>true) &&
  (match o.dst with
    |some d=>(List.range ops.length).all fun q=>Nat.beq q i || match ops[q]? with
     |some p=> !xc7 p d
     |none=>true
    |none=>true) &&
  (pre.all fun q=>match ops[q]? with
    |some p=>((looks ops p).all fun t=> !xc7 o t) || pre.any fun e=>qd9 ops e && jag m e q
    |none=>false) &&
  match zah o.op with
  |true=>(post.all fun j=>jag m j i) && pre.all fun q=>match ops[q]? with
   |some p=>zah p.op || jag m i q || qc0 p.op || (yr fl i).contains q
   |none=>false
  |false=>(yr fl i).isEmpty
def vcv(ops:List Oper)(fl:List (Nat × List Nat))(m:List Nat):List Nat→List Nat→Bool
 |_,[]=>true
 |pre,i::post=>jdd ops fl m pre i post && vcv ops fl m (pre++[i]) post
def xcv(ops:List Oper)(an:Ann):Bool:=
 let m:=ybh ops []
 ((List.range ops.length).all fun i=>an.order.contains i && (List.range ops.length).all fun q=>zdm ops m i q) &&
 (m.all fun x=>Nat.blt x (2 ^ ops.length)) &&
 vcv ops an.floats m [] an.order
structure StepOk (ops:List Oper) (fl:List (Nat × List Nat)) (m:List Nat) (pre:List Nat) (i:Nat) (post:List Nat) (o:Oper):Prop where
 op:ops[i]? =some o
 new:i ∉ pre
 lin:∀ e,e ∈ qad o→e ∈ pre
 own:∀ t,t ∈ looks ops o→o.dst≠some t
 wr:∀ t,t ∈ looks ops o→∀ q p,ops[q]? =some p→p.dst=some t→jag m i q=true∨∃ e X Y,post=X++q::Y∧e ∈ X∧(∃ oe,ops[e]? =some oe∧zah oe.op=true)∧jag m e i=true
 dst:∀ d,o.dst=some d→∀ q p,q≠i→ops[q]? =some p→p.dst≠some d
 old:∀ q p,q ∈ pre→ops[q]? =some p→(∀ t,t ∈ looks ops p→o.dst≠some t)∨∃ e oe,e ∈ pre∧ops[e]? =some oe∧zah oe.op=true∧jag m e q=true
 eff:zah o.op=true→(∀ j,j ∈ post→jag m j i=true) ∧
  ∀ q p,q ∈ pre→ops[q]? =some p→zah p.op=false→jag m i q=false→qc0 p.op=false→q ∈ yr fl i
 pure:zah o.op=false→yr fl i=[]
structure DrawOk (ops:List Oper) (order:List Nat) (fl:List (Nat × List Nat)) (m:List Nat):Prop where
 all:∀ i,i<ops.length→i ∈ order
 mask:∀ i q,jag m i q=true→∃ o e,ops[i]? =some o∧e ∈ qad o∧(e=q∨(e<i∧jag m e q=true))
 step:∀ pre i post,order=pre++i::post→∃ o,StepOk ops fl m pre i post o
theorem qa3{o:Oper}{t:Tmp}:xc7 o t=true↔o.dst=some t:=by
 unfold xc7
 cases o.dst with
 |none=>simp
 |some d=>
  constructor
  ·intro h;rw[Nat.eq_of_beq_eq_true h]
  ·intro h;cases h;exact Nat.beq_refl _
theorem xbt{ops:List Oper}{e:Nat}(h:qd9 ops e=true):∃ oe,ops[e]? =some oe∧zah oe.op=true:=by
 unfold qd9 at h
 cases ho:ops[e]? with
 |none=>rw[ho] at h;cases h
 |some oe=>rw[ho] at h;exact⟨oe,rfl,h⟩
theorem jaq:∀(l:List Nat) (q:Nat),q ∈ l→∃ X Y,l=X++q::Y∧(l.takeWhile fun x=> !Nat.beq x q)=X
 |x::l,q,h=>by
  by_cases hx:x=q
  ·subst hx
   exact⟨[],l,rfl,by simp[List.takeWhile_cons,Nat.beq_refl]⟩
  ·obtain⟨X,Y,h1,h2⟩:=jaq l q (by
    rcases List.mem_cons.1 h with h|h
    ·exact absurd h.symm hx
    ·exact h)
   refine⟨x::X,Y,by rw[h1];rfl,?_⟩
   have:Nat.beq x q=false:=by
    cases hb:Nat.beq x q with
    |false=>rfl
    |true=>exact absurd (Nat.eq_of_beq_eq_true hb) hx
   rw[List.takeWhile_cons,this]
   simp only[Bool.not_false,if_true]
   rw[h2]
theorem jcf{ops:List Oper}{fl:List (Nat × List Nat)}{m pre:List Nat}{i:Nat}{post:List Nat}(h:jdd ops fl m pre i post=true):∃ o,StepOk ops fl m pre i post o:=by
 unfold jdd at h
 cases ho:ops[i]? with
 |none=>simp[ho] at h
 |some o=>
  simp only[ho,Bool.and_eq_true] at h
  obtain⟨⟨⟨⟨⟨h1,h2⟩,h3⟩,h4⟩,h5⟩,h6⟩:=h
  have lt:∀ q p,ops[q]? =some p→q<ops.length:=fun q p hq=>(List.getElem?_eq_some_iff.1 hq).1
  refine⟨o,⟨ho,by simpa using h1,?_,?_,?_,?_,?_,?_,?_⟩⟩
  ·intro e he
   have:=List.all_eq_true.1 h2 e he
   simpa using this
  ·intro t ht hd
   have:=List.all_eq_true.1 h3 t ht
   simp only[Bool.and_eq_true,Bool.not_eq_true'] at this
   rw[qa3.2 hd] at this
   cases this.1
  ·intro t ht q p hq hp
   have:=List.all_eq_true.1 h3 t ht
   simp only[Bool.and_eq_true] at this
   have:=List.all_eq_true.1 this.2 q (List.mem_range.2 (lt q p hq))
   simp only[hq,qa3.2 hp,Bool.not_true,Bool.false_or,Bool.or_eq_true,Bool.and_eq_true] at this
   rcases this with hb|⟨hq1,hq2⟩
   ·exact .inl hb
   ·obtain⟨e,he1,he2⟩:=List.any_eq_true.1 hq2
    rw[Bool.and_eq_true] at he2
    obtain⟨oe,hoe⟩:=xbt he2.1
    obtain⟨X,Y,hXY,hX⟩:=jaq post q (by simpa using hq1)
    exact .inr ⟨e,X,Y,hXY,hX ▸ he1,⟨oe,hoe⟩,he2.2⟩
  ·intro d hd q p hne hq hp
   rw[hd] at h4
   have:=List.all_eq_true.1 h4 q (List.mem_range.2 (lt q p hq))
   simp only[hq,qa3.2 hp,Bool.not_true,Bool.or_false] at this
   exact hne (Nat.eq_of_beq_eq_true this)
  ·intro q p hqp hq
   have:=List.all_eq_true.1 h5 q hqp
   simp only[hq,Bool.or_eq_true] at this
   rcases this with this|this
   ·refine .inl fun t ht hd=>?_
    have:=List.all_eq_true.1 this t ht
    simp[qa3.2 hd] at this
   ·obtain⟨e,he1,he2⟩:=List.any_eq_true.1 this
    rw[Bool.and_eq_true] at he2
    obtain⟨oe,hoe⟩:=xbt he2.1
    exact .inr ⟨e,oe,he1,hoe.1,hoe.2,he2.2⟩
  ·intro he
   simp only[he,Bool.and_eq_true] at h6
   refine⟨fun j hj=>List.all_eq_true.1 h6.1 j hj,fun q p hqp hq hp hb hs=>?_⟩
   have:=List.all_eq_true.1 h6.2 q hqp
   simp only[hq,hp,hb,hs,Bool.false_or] at this
   simpa using this
  ·intro he
   simp only[he] at h6
   simpa using h6
theorem ycn{ops:List Oper}{fl:List (Nat × List Nat)}{m:List Nat}:∀(rest pre0:List Nat),vcv ops fl m pre0 rest=true →
 ∀ pre i post,rest=pre++i::post→∃ o,StepOk ops fl m (pre0++pre) i post o:=by
 intro rest
 induction rest with
 |nil=>intro pre0 _ pre i post he;simp at he
 |cons k rest ih=>
  intro pre0 h pre i post he
  simp only[vcv,Bool.and_eq_true] at h
  cases pre with
  |nil=>
   simp only[List.nil_append,List.cons.injEq] at he
   obtain⟨rfl,rfl⟩:=he
   simpa using jcf h.1
  |cons k' pre=>
   simp only[List.cons_append,List.cons.injEq] at he
   obtain⟨rfl,rfl⟩:=he
   have:=ih (pre0++[k]) h.2 pre i post rfl
   simpa using this
theorem qcw:∀(m:List Nat) (i q:Nat),jag m i q=(m.getD i 0).testBit q
 | [],i,q=>by simp[jag]
 |x::m,0,q=>by simp[jag]
 |x::m,i+1,q=>by simp[jag,qcw m i q]
theorem vbh:∀(l:List Oper) (acc:List Nat),(ybh l acc).length=acc.length+l.length
 | [],acc=>rfl
 |o::l,acc=>by simp only[ybh];rw[vbh l];simp;omega
theorem vcn{ops:List Oper}{an:Ann}(h:xcv ops an=true):DrawOk ops an.order an.floats (ybh ops []):=by
 simp only[xcv,Bool.and_eq_true] at h
 obtain⟨⟨h1,h2⟩,h3⟩:=h
 have h1':∀ i,i<ops.length→i ∈ an.order∧∀ q,q<ops.length→zdm ops (ybh ops []) i q=true:=by
  intro i hi
  have:=List.all_eq_true.1 h1 i (List.mem_range.2 hi)
  simp only[Bool.and_eq_true] at this
  exact⟨by simpa using this.1,fun q hq=>List.all_eq_true.1 this.2 q (List.mem_range.2 hq)⟩
 refine⟨fun i hi=>(h1' i hi).1,?_,fun pre i post he=>by simpa using ycn an.order [] h3 pre i post he⟩
 intro i q hb
 have hb':=hb
 rw[qcw] at hb
 have hi:i<ops.length:=by
  rcases Nat.lt_or_ge i ops.length with h|h
  ·exact h
  ·have:(ybh ops []).length≤i:=by rw[vbh];simpa using h
   simp[List.getD,List.getElem?_eq_none this] at hb
 have hq:q<ops.length:=by
  rcases Nat.lt_or_ge q ops.length with h|h
  ·exact h
  ·have hil:i<(ybh ops []).length:=by rw[vbh];simpa using hi
   have hx:=List.all_eq_true.1 h2 _ (List.getElem_mem hil)
   have hx':(ybh ops [])[i]<2 ^ ops.length:=nb hx
   have:(ybh ops [])[i]<2 ^ q:=Nat.lt_of_lt_of_le hx' (Nat.pow_le_pow_right (by omega) h)
   have hf:=Nat.testBit_lt_two_pow this
   simp[List.getD,List.getElem?_eq_getElem hil,hf] at hb
 have:=(h1' i hi).2 q hq
 unfold zdm at this
 rw[hb',Bool.not_true,Bool.false_or] at this
 cases ho:ops[i]? with
 |none=>simp[ho] at this
 |some o=>
  simp only[ho] at this
  obtain⟨e,he,h⟩:=List.any_eq_true.1 this
  refine⟨o,e,rfl,he,?_⟩
  rw[Bool.or_eq_true] at h
  rcases h with h|h
  ·exact .inl (Nat.eq_of_beq_eq_true h)
  ·simp only[Bool.and_eq_true] at h
   exact .inr ⟨nb h.1,h.2⟩
theorem DrawOk.before{ops:List Oper}{order:List Nat}{fl:List (Nat × List Nat)}{m:List Nat}(h:DrawOk ops order fl m){done:Nat→Prop}
 (hc:∀ i o,ops[i]? =some o→done i→∀ e,e ∈ qad o→done e):∀ i o,ops[i]? =some o→(∀ e,e ∈ qad o→done e)→∀ q,jag m i q=true→done q:=by
 intro i
 induction i using Nat.strongRecOn with
 |_ i ih=>
  intro o ho hr q hb
  obtain⟨o',e,ho',he,hor⟩:=h.mask i q hb
  have:o'=o:=by have:=ho'.symm.trans ho;simpa using this
  subst this
  rcases hor with rfl|⟨hlt,hb'⟩
  ·exact hr e he
  ·obtain⟨o2,e2,ho2,_⟩:=h.mask e q hb'
   exact ih e hlt o2 ho2 (fun e' he'=>hc e o2 ho2 (hr e he) e' he') q hb'
theorem xbh{o:Oper}{e:Nat}:e ∈ qad o↔∃ x,x ∈ o.after∧Region.binds .any x=true∧x.on=e:=by
 unfold qad
 rw[List.mem_filterMap]
 constructor
 ·rintro⟨x,hx,h⟩
  cases hb:Region.binds .any x with
  |true=>simp only[hb,Option.some.injEq] at h;exact⟨x,Array.mem_toList_iff.1 hx,hb,h⟩
  |false=>simp[hb] at h
 ·rintro⟨x,hx,hb,rfl⟩
  exact⟨x,Array.mem_toList_iff.2 hx,by simp[hb]⟩
end Go.AM
namespace Go.AM
theorem vd9{o n:Nat}(h:Nat.ble (o+1) n=true):o<n:=nb h
theorem qbp{T:Tab}{env:Env}{S:St}{op:Op}{row:List AV}(h:yf T env S op≠ .no):yf T env (S.push row) op=yf T env S op:=by
 cases op with
 |load t x=>
  simp only[yf] at h ⊢
  split
  ·rename_i hh
   simp only[hh] at h
   split
   ·rename_i o off hp
    simp only[hp] at h
    split at h
    ·rename_i hlt
     have hlt':=vd9 hlt
     have h1:Nat.ble (o+1) (S.push row).next=true:=Nat.ble_eq_true_of_le (Nat.le_succ_of_le hlt')
     have h2:(S.push row).row o=S.row o:=by rw[yat,if_neg (by omega)]
     simp only[h1,hlt,h2]
    ·exact absurd rfl h
   ·rfl
   ·rfl
  ·rfl
 |makeFunc f x y=>cases f<;>rfl
 |slice t x lo hi mx=>cases lo<;>cases hi<;>cases mx<;>rfl
 |_=>rfl
theorem qbc{T:Tab}{env:Env}{S S':St}{op:Op}(h:qc0 op=true∨op matches .alloc _∨op matches .box ..):yf T env S op=yf T env S' op:=by
 cases op with
 |load t x=>simp[qc0] at h
 |makeFunc f x y=>cases f<;>rfl
 |slice t x lo hi mx=>cases lo<;>cases hi<;>cases mx<;>rfl
 |_=>rfl
theorem qd8{P:Program}{T:Tab}{N:Nat}{env:Env}{S:St}{op:Op}{Pa K:AV→St→Prop}(he:zah op=false)(h:xop (pAlg P T N) T env S op Pa K):yf T env S op≠ .no:=by
 intro hp
 unfold xop at h
 rw[hp] at h
 cases op with
 |store=>simp[zah] at he
 |panic=>simp[zah] at he
 |call c=>
  cases hc:c.callee with
  |builtin b=>
   cases b<;>simp[zah,hc] at he
   simp only[xeff,hc] at h
   exact h
  |value f=>simp[zah,hc] at he
  |invoke r n=>simp[zah,hc] at he
 |_=>exact h
def qap(T:Tab)(C:Ctx)(env:Env)(S:St)(g:Ghost)(ob:Option Nat)(o:Oper):Prop:=
 match yf T env S o.op with
 |.ok v=>∀ d,o.dst=some d→env.get d=v
 |.need b v=>b=true∧∀ d,o.dst=some d→env.get d=v
 |.new row=>∃ n,ob=some n∧(∀ d,o.dst=some d→env.get d= .ptr n 0)∧S.row n=row∧n<S.next∧g.ρ n=none∧C.next≤n
 |.no=>False
def Owed(T:Tab)(C:Ctx)(all:List Oper)(env:Env)(S:St)(g:Ghost)(ob:Option Nat)(o:Oper):Prop:=
 zah o.op=false ∧
 ((∃ j want b,o.guard=some (j,want)∧ql all env j=b∧NotW b want∧∀ d,o.dst=some d→env.get d= .tup []) ∨
  ((o.guard=none∨∃ j want,o.guard=some (j,want)∧ql all env j= .bool want)∧qap T C env S g ob o))
def qem:Op→Bool
 |.alloc _=>true
 |.box .. =>true
 |_=>false
theorem zc8{X:Sg}{op:BinOp}{b:Bool}{row:List AV}(h:vap X op b= .new row):False:=by
 unfold vap at h
 split at h<;>cases h
theorem qea{X:Sg}{eqs:List TypeId}{sz:Nat}{t:TypeId}{ty:Ty}{c:Bool}{op:BinOp}{x y:AV}{row:List AV}(h:binV X eqs sz t ty c op x y= .new row):False:=by
 unfold binV at h
 repeat' split at h
 all_goals first|exact zc8 h|cases h
theorem jb8{T:Tab}{env:Env}{S:St}{op:Op}{row:List AV}(h:yf T env S op= .new row):qem op=true:=by
 cases op with
 |alloc=>rfl
 |box=>rfl
 |binOp op t x y t'=>exact(qea (sz:=T.size t) h).elim
 |makeFunc f x y=>cases f<;>cases h
 |slice t x lo hi mx=>
  cases lo<;>cases hi<;>cases mx<;>simp only[yf] at h<;>(repeat' split at h)<;>cases h
 |_=>(try simp only[yf] at h)<;>(repeat' split at h)<;>cases h
end Go.AM
