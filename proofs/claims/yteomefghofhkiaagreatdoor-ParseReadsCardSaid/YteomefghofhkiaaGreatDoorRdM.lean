/- The parser comes to an end. -/
import Derived.Test.YteomefghofhkiaaGreatDoorRdL
set_option linter.unusedVariables false
set_option linter.unusedSimpArgs false
set_option maxHeartbeats 4000000
namespace Go.AM.Ps
open W
def Res{α:Type}(t:List Tk)(lo:Nat)(Q:α→Nat→Prop)(r:Rs α):Prop:=r≠ .fuel∧∀ a z',r= .ok a z'→lo≤z'∧z'≤t.length∧Q a z'
theorem Res.bind{α β:Type}{t:List Tk}{lo1 lo:Nat}{Q:α→Nat→Prop}{Q':β→Nat→Prop}{r:Rs α}{f:α→Nat→Rs β}(h:Res t lo1 Q r)(hf:∀ a z',lo1≤z'→z'≤t.length→Q a z'→Res t lo Q' (f a z')):Res t lo Q' (r.bind f):=by
 cases r with
 |fuel=>exact absurd rfl h.1
 |wrong=>exact⟨by simp[Rs.bind],fun a z' q=>by simp[Rs.bind] at q⟩
 |ok a z1=>obtain⟨h1,h2,h3⟩:=h.2 a z1 rfl;exact hf a z1 h1 h2 h3
theorem Res.ok{α:Type}{t:List Tk}{lo:Nat}{Q:α→Nat→Prop}{a:α}{z:Nat}(h1:lo≤z)(h2:z≤t.length)(h3:Q a z):Res t lo Q (.ok a z):=
 ⟨by simp,fun b z' q=>by cases q;exact⟨h1,h2,h3⟩⟩
theorem Res.wrong{α:Type}{t:List Tk}{lo:Nat}{Q:α→Nat→Prop}:Res t lo Q (.wrong:Rs α):=⟨by simp,fun b z' q=>by cases q⟩
theorem Res.mono{α:Type}{t:List Tk}{lo lo':Nat}{Q Q':α→Nat→Prop}{r:Rs α}(h:Res t lo' Q r)(hl:lo≤lo')(hq:∀ a z',lo'≤z'→Q a z'→Q' a z'):Res t lo Q' r:=
 ⟨h.1,fun a z' q=>by obtain⟨h1,h2,h3⟩:=h.2 a z' q;exact⟨by omega,h2,hq a z' h1 h3⟩⟩
section
variable {t:List Tk}
theorem qan{z:Nat}{s:List UInt8}(h:sees t z s=true):z<t.length:=by
 unfold sees at h
 rcases Nat.lt_or_ge z t.length with w|w
 ·exact w
 ·rw[List.getElem?_eq_none w] at h;cases h
theorem qca{z:Nat}{k:Int}(h:isKind t k z=true):z<t.length:=by
 unfold isKind at h
 rcases Nat.lt_or_ge z t.length with w|w
 ·exact w
 ·rw[List.getElem?_eq_none w] at h;cases h
theorem ydq{z:Nat}(h:isName qa t z=true):z<t.length:=by
 unfold isName at h
 rcases Nat.lt_or_ge z t.length with w|w
 ·exact w
 ·rw[List.getElem?_eq_none w] at h;cases h
theorem xh(s:List UInt8)(z:Nat):Res t (z+1) (fun _ _=>True) (need t s z):=by
 unfold need
 split
 ·rename_i h;exact .ok (Nat.le_refl _) (qan h) trivial
 ·exact .wrong
theorem qb5:∀(l:List (List UInt8)) (z:Nat),z≤t.length→Res t z (fun _ _=>True) (needs t l z)
 | [],z,hz=> .ok (Nat.le_refl _) hz trivial
 |s::l,z,hz=>by
  simp only[needs]
  exact(xh s z).bind fun _ z' h1 h2 _=>(qb5 l z' h2).mono (by omega) fun _ _ _ h=>h
theorem qe(s:List UInt8)(l:List (List UInt8))(z:Nat)(hz:z≤t.length):Res t z (fun b z'=>b=true→z+1≤z') (take t s l z):=by
 unfold take
 split
 ·rename_i h
  exact(qb5 l (z+1) (qan h)).bind fun _ z' h1 h2 _=> .ok (by omega) h2 fun _=>h1
 ·exact .ok (Nat.le_refl _) hz fun h=>nomatch h
theorem jx:∀(l:List (List UInt8)) (z:Nat),z≤t.length→Res t z (fun a z'=>(a == [])=false→z+1≤z') (one t l z)
 | [],z,hz=> .ok (Nat.le_refl _) hz fun h=>nomatch h
 |s::l,z,hz=>by
  unfold one
  split
  ·rename_i h;exact .ok (by omega) (qan h) fun _=>Nat.le_refl _
  ·exact jx l z hz
theorem jk(z:Nat):Res t (z+1) (fun _ _=>True) (name qa t z):=by
 unfold name
 split
 ·rename_i h;exact .ok (Nat.le_refl _) (ydq h) trivial
 ·exact .wrong
theorem qau(z:Nat):Res t (z+1) (fun _ _=>True) (number t z):=by
 unfold number
 split
 ·rename_i h;exact .ok (Nat.le_refl _) (qca h) trivial
 ·exact .wrong
theorem zaa{α:Type}{Q:α→Nat→Prop}{part:Nat→Rs α}{z:Nat}(hQ:∀ a z1 z2,Q a z1→Q a z2)(hp:∀ z',z+1≤z'→z'≤t.length→Res t z' Q (part z')):Res t (z+1) Q (within t part z):=by
 unfold within
 exact(xh _ z).bind fun _ z1 h1 h2 _=>(hp z1 h1 h2).bind fun a z2 h3 h4 h5=>(xh _ z2).bind fun _ z3 h6 h7 _=> .ok (by omega) h7 (hQ _ _ _ h5)
def xe:Nd→Nat→Prop:=fun a _=>Small a
def zu:List Nd→Nat→Prop:=fun l _=>ym l∧l.length≤1500000000
theorem yc{op:List UInt8}{l:List Nd}(h:ym l)(hl:l.length≤2000000000):Small (node op l):=by unfold node;simp only[Small];exact⟨hl,h⟩
theorem je{op s:List UInt8}{l:List Nd}(h:ym l)(hl:l.length≤2000000000):Small (named op s l):=by unfold named;simp only[Small];exact⟨hl,h⟩
theorem qx{op s:List UInt8}{k:Int}{l:List Nd}(h:ym l)(hl:l.length≤2000000000):Small (.mk op s k l):=by simp only[Small];exact⟨hl,h⟩
theorem zd:ym []:=by simp only[ym]
theorem qg{x:Nd}{l:List Nd}(h:Small x)(k:ym l):ym (x::l):=by simp only[ym];exact⟨h,k⟩
theorem qaa{l:List Nd}{x:Nd}(h:ym l)(k:Small x):ym (l++[x]):=by
 rw[jbq] at *
 intro y hy
 rcases List.mem_append.1 hy with hy|hy
 ·exact h y hy
 ·simp at hy;rw[hy];exact k
theorem zb5{Q:Nd→Nat→Prop}{part:Nat→Rs Nd}(hQ:∀ a z,Q a z→Small a):∀(n:Nat) (acc:List Nd) (z:Nat),z≤t.length→t.length+1-z≤n→(∀ z',z+1≤z'→z'≤t.length→Res t (z'+1) Q (part z'))→ym acc →
 acc.length+n≤1500000000→Res t z zu (listMore t part n acc z):=by
 intro n
 induction n with
 |zero=>intro acc z hz hn;omega
 |succ n ih=>
  intro acc z hz hn hp hs hl
  show Res t z zu (match sees t z g_comma with
   |true=>(part (z+1)).bind fun x z=>listMore t part n (acc++[x]) z
   |false=> .ok acc z)
  split
  ·rename_i h
   have hlt:=qan h
   exact(hp (z+1) (by omega) (by omega)).bind fun x z1 h1 h2 h3=>(ih (acc++[x]) z1 h2 (by omega) (fun z' h4 h5=>hp z' (by omega) h5) (qaa hs (hQ _ _ h3)) (by simp;omega)).mono (by omega) fun _ _ _ h=>h
  ·exact .ok (Nat.le_refl _) hz ⟨hs,by omega⟩
theorem zt{Q:Nd→Nat→Prop}{part:Nat→Rs Nd}(hQ:∀ a z,Q a z→Small a){n z:Nat}(hz:z≤t.length)(hn:t.length+1-z≤n)(hn2:n≤1000000000)(hp:∀ z',z≤z'→z'≤t.length→Res t (z'+1) Q (part z')):Res t (z+1) zu (vf t n part z):=by
 unfold vf
 exact(hp z (Nat.le_refl _) hz).bind fun x z1 h1 h2 h3=>(zb5 hQ n [x] z1 h2 (by omega) (fun z' h4 h5=>hp z' (by omega) h5) (qg (hQ _ _ h3) zd) (by simp;omega)).mono h1 fun _ _ _ h=>h
theorem za5(z:Nat):Res t (z+1) xe (column qa t z):=by
 unfold column
 refine(jk z).bind fun s z1 h1 h2 _=>(qe xcm [] z1 h2).bind fun b z2 h3 h4 h5=>?_
 cases b
 ·exact .ok (by omega) h4 (je zd (by simp))
 ·exact(jk z2).bind fun c z3 h6 h7 _=> .ok (by omega) h7 (je (qg (je zd (by simp)) zd) (by simp))
theorem qdj(z:Nat):Res t (z+1) xe (aName qa t z):=by
 unfold aName
 exact(jk z).bind fun s z1 h1 h2 _=> .ok (by omega) h2 (je zd (by simp))
theorem zb4(z:Nat)(hz:z≤t.length):Res t (z+1) xe (typed t z):=by
 unfold typed
 refine(jx _ z hz).bind fun s z1 h1 h2 h3=>?_
 have hw:∀ z,Res t (z+1) (fun _ _=>True) (within t (number t) z):=fun z=>zaa (fun _ _ _ h=>h) fun z' _ h=>(qau z').mono (by omega) fun _ _ _ h=>h
 cases h0:(s == []) with
 |true=>exact .wrong
 |false=>
  have h4:=h3 h0
  have ok0:∀(a b:List UInt8) (k:Int) (z2:Nat),z+1≤z2→z2≤t.length→Res t (z+1) xe (.ok (Nd.mk a b k []) z2):=fun a b k z2 q1 q2=> .ok q1 q2 (qx zd (by simp))
  generalize (s == xdq)=b1
  generalize (s == jal || s == yaf)=b2
  generalize (s == qal)=b3
  cases b1
  ·cases b2
   ·cases b3
    ·exact ok0 _ _ _ z1 h4 h2
    ·exact(hw z1).bind fun n z2 q1 q2 _=>ok0 _ _ _ z2 (by omega) q2
   ·show Res t (z+1) xe (match sees t z1 g_par with
     |true=>(within t (number t) z1).bind fun n z=> .ok (.mk vaf jal n []) z
     |false=> .ok (.mk vaf jal 1 []) z1)
    split
    ·exact(hw z1).bind fun n z2 q1 q2 _=>ok0 _ _ _ z2 (by omega) q2
    ·exact ok0 _ _ _ z1 h4 h2
  ·exact ok0 _ _ _ z1 h4 h2
theorem xb5(s:List UInt8)(z:Nat)(hz:z≤t.length):Res t z (fun _ _=>True) (alias qa t s z):=by
 unfold alias
 refine(qe k_as [] z hz).bind fun q z1 h1 h2 h3=>?_
 split
 ·exact(jk z1).mono (by omega) fun _ _ _ h=>h
 ·exact .ok h1 h2 trivial
theorem vab{b:Bool}{x:Nd}(h:Small x):Small (turned b x):=by
 cases b
 ·exact h
 ·exact yc (qg h zd) (by simp)
theorem jbf{Q:Nd→Nat→Prop}(hQ:∀ a z,Q a z→Small a){part:Nat→Rs Nd}(w:List UInt8)(z:Nat)(hz:z≤t.length)(hp:∀ z',z+1≤z'→z'≤t.length→Res t z' Q (part z')):Res t z zu (optPart t w part z):=by
 unfold optPart
 refine(qe w [] z hz).bind fun b z1 h1 h2 h3=>?_
 cases b
 ·exact .ok h1 h2 ⟨zd,by simp⟩
 ·exact(hp z1 (h3 rfl) h2).bind fun a z2 q1 q2 q3=> .ok (by omega) q2 ⟨qg (hQ _ _ q3) zd,by simp⟩
theorem yb4{n:Nat}(z:Nat)(hz:z≤t.length)(hn:t.length+1-z≤n)(hn2:n≤1000000000):Res t z zu (optGroup qa t n z):=by
 unfold optGroup
 refine(qe k_group [k_by] z hz).bind fun b z1 h1 h2 h3=>?_
 cases b
 ·exact .ok h1 h2 ⟨zd,by simp⟩
 ·exact(zt (Q:=xe) (fun _ _ h=>h) h2 (by omega) hn2 fun z' _ _=>za5 z').mono (by omega) fun _ _ _ h=>h
theorem jb4{part:Nat→Rs Nd}(words:List (List UInt8)):∀(n:Nat) (a:Nd) (z:Nat),Small a→z≤t.length→t.length+1-z≤n→(∀ z',z+1≤z'→z'≤t.length→Res t (z'+1) xe (part z'))→Res t z xe (jh t part words n a z):=by
 intro n
 induction n with
 |zero=>intro a z _ hz hn;omega
 |succ n ih=>
  intro a z ha hz hn hp
  unfold jh
  refine(jx words z hz).bind fun op z1 h1 h2 h3=>?_
  cases h0:(op == []) with
  |true=>exact .ok h1 h2 ha
  |false=>
   have h4:=h3 h0
   refine(qe vaj [] z1 h2).bind fun al z2 q1 q2 _=>(hp z2 (by omega) q2).bind fun b z3 q3 q4 q5=>?_
   exact(ih _ z3 (qx (qg ha (qg q5 zd)) (by simp)) q4 (by omega) (fun z' q6 q7=>hp z' (by omega) q7)).mono (by omega) fun _ _ _ h=>h
theorem ybq{part:Nat→Rs Nd}(words:List (List UInt8)){n z:Nat}(hz:z≤t.length)(hn:t.length+1-z≤n)(hp:∀ z',z≤z'→z'≤t.length→Res t (z'+1) xe (part z')):Res t (z+1) xe (vn t n part words z):=by
 unfold vn
 exact(hp z (Nat.le_refl _) hz).bind fun a z1 h1 h2 h3=>(jb4 words n a z1 h3 h2 (by omega) fun z' q1 q2=>hp z' (by omega) q2).mono h1 fun _ _ _ h=>h
theorem xbx{jn ex:Nat→Rs Nd}:∀(n:Nat) (a:Nd) (z:Nat),Small a→z≤t.length→t.length+1-z≤n→(∀ z',z+1≤z'→z'≤t.length→Res t (z'+1) xe (jn z'))→(∀ z',z+1≤z'→z'≤t.length→Res t (z'+1) xe (ex z'))→Res t z xe (yg t jn ex n a z):=by
 intro n
 induction n with
 |zero=>intro a z _ hz hn;omega
 |succ n ih=>
  intro a z ha hz hn hj he
  unfold yg
  refine(jx _ z hz).bind fun op z1 h1 h2 h3=>?_
  cases h0:(op == []) with
  |true=>exact .ok h1 h2 ha
  |false=>
   have h4:=h3 h0
   have next:∀ op' l z3,ym l→l.length≤2000000000→z+1≤z3→z3≤t.length→Res t z xe (yg t jn ex n (node op' l) z3):=fun op' l z3 q1 q2 q3 q4=>
    (ih (node op' l) z3 (yc q1 q2) q4 (by omega) (fun z' q5 q6=>hj z' (by omega) q6) (fun z' q5 q6=>he z' (by omega) q6)).mono (by omega) fun _ _ _ h=>h
   have tail:∀ op' z2,z+1≤z2→z2≤t.length→Res t z xe ((jn z2).bind fun b z=>(need t k_on z).bind fun _ z=>(ex z).bind fun e z=>yg t jn ex n (node op' [a,b,e]) z):=fun op' z2 q1 q2=>
    (hj z2 q1 q2).bind fun b z3 r1 r2 r3=>(xh _ z3).bind fun _ z4 r4 r5 _=>(he z4 (by omega) r5).bind fun e z5 r6 r7 r8=>next op' _ z5 (qg ha (qg r3 (qg r8 zd))) (by simp) (by omega) r7
   generalize (op == k_cross)=b1
   generalize (op == zw)=b2
   generalize (op == k_inner)=b3
   cases b1
   ·cases b2
    ·cases b3
     ·exact(qe _ [] z1 h2).bind fun _ z2 q1 q2 _=>(xh _ z2).bind fun _ z3 q3 q4 _=>tail op z3 (by omega) q4
     ·exact(xh _ z1).bind fun _ z2 q1 q2 _=>tail op z2 (by omega) q2
    ·exact tail k_inner z1 h4 h2
   ·exact(xh _ z1).bind fun _ z2 q1 q2 _=>(hj z2 (by omega) q2).bind fun b z3 q3 q4 q5=>next op _ z3 (qg ha (qg q5 zd)) (by simp) (by omega) q4
theorem jan{ex:Nat→Rs Nd}(of:Option Nd)(hof:∀ o,of=some o→Small o):∀(n:Nat) (fst:Bool) (l:List Nd) (z:Nat),ym l→l.length+n≤1400000000→z≤t.length→t.length+1-z≤n→(∀ z',z+1≤z'→z'≤t.length→Res t (z'+1) xe (ex z'))→Res t z zu (qd t ex n of fst l z):=by
 intro n
 induction n with
 |zero=>intro fst l z _ _ hz hn;omega
 |succ n ih=>
  intro fst l z hl hln hz hn he
  unfold qd
  generalize (fst || sees t z k_when)=b
  cases b
  ·exact .ok (Nat.le_refl _) hz ⟨hl,by omega⟩
  ·refine(xh _ z).bind fun _ z1 h1 h2 _=>(he z1 h1 h2).bind fun c z2 h3 h4 h5=>(xh _ z2).bind fun _ z3 h6 h7 _=>(he z3 (by omega) h7).bind fun e z4 h8 h9 h10=>?_
   have hc:∀ of:Option Nd,(∀ o,of=some o→Small o)→Small (match of with|some o=>node g_eq [o,c]|none=>c):=by
    intro of hof
    cases of with
    |none=>exact h5
    |some o=>exact yc (qg (hof o rfl) (qg h5 zd)) (by simp)
   have hc:=hc of hof
   exact(ih false _ z4 (qaa hl (yc (qg hc (qg h10 zd)) (by simp))) (by simp;omega) h9 (by omega) (fun z' q1 q2=>he z' (by omega) q2)).mono (by omega) fun _ _ _ h=>h
theorem xa8{ex:Nat→Rs Nd}(l:List Nd)(hl:ym l∧l.length≤1500000000)(z:Nat)(hz:z≤t.length)(he:∀ z',z+1≤z'→z'≤t.length→Res t (z'+1) xe (ex z')):Res t z xe (vu t ex l z):=by
 unfold vu
 refine(qe _ [] z hz).bind fun b z1 h1 h2 h3=>?_
 cases b
 ·exact(xh _ z1).bind fun _ z2 q1 q2 _=> .ok (by omega) q2 (yc (qaa hl.1 (yc zd (by simp))) (by have:=hl.2;simp;omega))
 ·exact(he z1 (h3 rfl) h2).bind fun e z2 q1 q2 q3=>(xh _ z2).bind fun _ z3 q4 q5 _=> .ok (by omega) q5 (yc (qaa hl.1 q3) (by have:=hl.2;simp;omega))
end
end Go.AM.Ps
namespace Go.AM.Ps
open W
structure Ends (t:List Tk) (m:Nat):Prop where
 expr:∀ z,z≤t.length→30 * (t.length+1-z)+12≤m→Res t (z+1) xe (expr qa t m z)
 exprs:∀ z,z≤t.length→30 * (t.length+1-z)+13≤m→Res t (z+1) zu (exprs qa t m z)
 bindsLo:∀ L z,L≤4→z≤t.length→30 * (t.length+1-z)+11≤m→Res t (z+1) xe (binds qa t m L z)
 bindsHi:∀ L z,¬ L≤4→z≤t.length→30 * (t.length+1-z)+5≤m→Res t (z+1) xe (binds qa t m L z)
 bindsMore:∀ L a z,Small a→z≤t.length→30 * (t.length+1-z)+20≤m→Res t z xe (bindsMore qa t m L a z)
 firstLo:∀ L z,L≤4→z≤t.length→30 * (t.length+1-z)+10≤m→Res t (z+1) xe (first qa t m L z)
 firstHi:∀ L z,¬ L≤4→z≤t.length→30 * (t.length+1-z)+4≤m→Res t (z+1) xe (first qa t m L z)
 test:∀ z,z≤t.length→30 * (t.length+1-z)+9≤m→Res t (z+1) xe (test qa t m z)
 primary:∀ z,z≤t.length→30 * (t.length+1-z)+3≤m→Res t (z+1) xe (primary qa t m z)
 primCast:∀ z,z≤t.length→30 * (t.length+1-z)+13≤m→Res t (z+1) xe (primCast qa t m z)
 primNullif:∀ z,z≤t.length→30 * (t.length+1-z)+13≤m→Res t (z+1) xe (primNullif qa t m z)
 primTotal:∀ w z,z≤t.length→30 * (t.length+1-z)+13≤m→Res t (z+1) xe (primTotal qa t m w z)
 cases:∀ z,z≤t.length→30 * (t.length+1-z)+13≤m→Res t (z+1) xe (cases qa t m z)
 body:∀ z,z≤t.length→30 * (t.length+1-z)+15≤m→Res t (z+1) xe (body qa t m z)
 term:∀ z,z≤t.length→30 * (t.length+1-z)+14≤m→Res t (z+1) xe (term qa t m z)
 simple:∀ z,z≤t.length→30 * (t.length+1-z)+13≤m→Res t (z+1) xe (simple qa t m z)
 item:∀ z,z≤t.length→30 * (t.length+1-z)+13≤m→Res t (z+1) xe (item qa t m z)
 table:∀ z,z≤t.length→30 * (t.length+1-z)+13≤m→Res t (z+1) xe (table qa t m z)
 joined:∀ z,z≤t.length→30 * (t.length+1-z)+12≤m→Res t (z+1) xe (joined qa t m z)
theorem s1{a:Nd}(h:Small a):ym [a]:=qg h zd
theorem s2{a b:Nd}(h:Small a)(k:Small b):ym [a,b]:=qg h (s1 k)
theorem s3{a b c:Nd}(h:Small a)(k:Small b)(l:Small c):ym [a,b,c]:=qg h (s2 k l)
theorem xbz(t:List Tk):∀ m,m≤1000000000→Ends t m:=by
 intro m
 induction m with
 |zero=>
  intro _
  constructor<;>intros<;>omega
 |succ m ih=>
  intro hm
  have E:=ih (by omega)
  have wi:∀ {α:Type} {Q:α→Nat→Prop} {part:Nat→Rs α} {z:Nat},(∀ a z1 z2,Q a z1→Q a z2)→(∀ z',z+1≤z'→z'≤t.length→Res t (z'+1) Q (part z'))→Res t (z+1) Q (within t part z):=fun hQ hp=>zaa hQ fun z' h1 h2=>(hp z' h1 h2).mono (by omega) fun _ _ _ h=>h
  have wA:∀ {part:Nat→Rs Nd} {z:Nat},(∀ z',z+1≤z'→z'≤t.length→Res t (z'+1) xe (part z'))→Res t (z+1) xe (within t part z):=fun hp=>wi (fun _ _ _ h=>h) hp
  have wL:∀ {part:Nat→Rs (List Nd)} {z:Nat},(∀ z',z+1≤z'→z'≤t.length→Res t (z'+1) zu (part z'))→Res t (z+1) zu (within t part z):=fun hp=>wi (fun _ _ _ h=>h) hp
  exact {
   expr:=fun z hz hk=>by
    rw[expr]
    exact E.bindsLo 1 z (by omega) hz (by omega)
   exprs:=fun z hz hk=>by
    rw[exprs]
    exact zt (Q:=xe) (fun _ _ h=>h) hz (by omega) (by omega) fun z' h1 h2=>E.expr z' h2 (by omega)
   bindsLo:=fun L z hL hz hk=>by
    rw[binds]
    exact(E.firstLo L z hL hz (by omega)).bind fun a z1 h1 h2 h3=>(E.bindsMore L a z1 h3 h2 (by omega)).mono h1 fun _ _ _ h=>h
   bindsHi:=fun L z hL hz hk=>by
    rw[binds]
    exact(E.firstHi L z hL hz (by omega)).bind fun a z1 h1 h2 h3=>(E.bindsMore L a z1 h3 h2 (by omega)).mono h1 fun _ _ _ h=>h
   bindsMore:=fun L a z ha hz hk=>by
    rw[bindsMore]
    cases hx:t[z]? with
    |none=>exact .ok (Nat.le_refl _) hz ha
    |some x=>
     have hlt:z<t.length:=by
      rcases Nat.lt_or_ge z t.length with w|w
      ·exact w
      ·rw[List.getElem?_eq_none w] at hx;cases hx
     simp only[]
     split
     ·exact .ok (Nat.le_refl _) hz ha
     ·split
      ·exact .ok (Nat.le_refl _) hz ha
      ·have hb:Res t (z+1+1) xe (binds qa t m (vd x.t+1) (z+1)):=by
        by_cases hL:vd x.t+1≤4
        ·exact E.bindsLo _ (z+1) hL hlt (by omega)
        ·exact E.bindsHi _ (z+1) hL hlt (by omega)
       exact hb.bind fun b z1 h1 h2 h3=>(E.bindsMore L _ z1 (yc (s2 ha h3) (by simp)) h2 (by omega)).mono (by omega) fun _ _ _ h=>h
   firstLo:=fun L z hL hz hk=>by
    rw[first]
    split
    ·rename_i h
     simp only[Bool.and_eq_true] at h
     have hlt:=qan h.2
     exact(E.firstLo 3 (z+1) (by omega) hlt (by omega)).bind fun a z1 h1 h2 h3=> .ok (by omega) h2 (yc (s1 h3) (by simp))
    ·rw[decide_eq_true hL]
     exact E.test z hz (by omega)
   firstHi:=fun L z hL hz hk=>by
    rw[first]
    split
    ·rename_i h
     simp only[Bool.and_eq_true,decide_eq_true_eq] at h
     omega
    ·rw[decide_eq_false hL]
     simp only[]
     split
     ·rename_i h
      have hlt:=qan h
      exact(E.firstHi 7 (z+1) (by omega) hlt (by omega)).bind fun a z1 h1 h2 h3=> .ok (by omega) h2 (yc (s1 h3) (by simp))
     ·exact E.primary z hz (by omega)
   test:=fun z hz hk=>by
    rw[test]
    have hb5:∀ z',z+1≤z'→z'≤t.length→Res t (z'+1) xe (binds qa t m 5 z'):=fun z' h1 h2=>E.bindsHi 5 z' (by omega) h2 (by omega)
    have hbd:∀ z',z+1≤z'→z'≤t.length→Res t (z'+1) xe (within t (body qa t m) z'):=fun z' h1 h2=>wA fun z2 h3 h4=>E.body z2 h4 (by omega)
    refine(E.bindsHi 5 z (by omega) hz (by omega)).bind fun a z1 h1 h2 h3=>(jx _ z1 h2).bind fun op z2 h4 h5 h6=>?_
    split
    ·refine(jx _ z2 h5).bind fun q z3 q1 q2 _=>?_
     split
     ·exact(hbd z3 (by omega) q2).bind fun b z4 q3 q4 q5=> .ok (by omega) q4 (je (s2 h3 q5) (by simp))
     ·exact(hbd z3 (by omega) q2).bind fun b z4 q3 q4 q5=> .ok (by omega) q4 (je (s2 h3 q5) (by simp))
     ·exact(hb5 z3 (by omega) q2).bind fun b z4 q3 q4 q5=> .ok (by omega) q4 (yc (s2 h3 q5) (by simp))
    ·refine(qe _ [] z2 h5).bind fun is z3 q1 q2 _=>?_
     split
     ·refine(qe _ [] z3 q2).bind fun no z4 q3 q4 _=>(jx _ z4 q4).bind fun s z5 q5 q6 _=>?_
      split
      ·exact .wrong
      ·exact .ok (by omega) q6 (vab (je (s1 h3) (by simp)))
     ·refine(qe _ [] z3 q2).bind fun no z4 q3 q4 _=>(qe _ [] z4 q4).bind fun bt z5 q5 q6 _=>?_
      split
      ·exact(hb5 z5 (by omega) q6).bind fun low z6 r1 r2 r3=>(xh _ z6).bind fun _ z7 r4 r5 _=>(hb5 z7 (by omega) r5).bind fun b z8 r6 r7 r8=> .ok (by omega) r7 (vab (yc (s3 h3 r3 r8) (by simp)))
      ·refine(qe _ [] z5 q6).bind fun lk z6 r1 r2 _=>?_
       split
       ·exact(hb5 z6 (by omega) r2).bind fun b z7 r3 r4 r5=> .ok (by omega) r4 (vab (yc (s2 h3 r5) (by simp)))
       ·refine(qe _ [] z6 r2).bind fun i z7 r3 r4 _=>?_
        split
        ·split
         ·exact(hbd z7 (by omega) r4).bind fun b z8 r5 r6 r7=> .ok (by omega) r6 (vab (je (s2 h3 r7) (by simp)))
         ·exact(wL (part:=exprs qa t m) (z:=z7) fun z2 w1 w2=>E.exprs z2 w2 (by omega)).bind fun l z8 r5 r6 r7=> .ok (by omega) r6 (vab (yc (qg h3 r7.1) (by have:=r7.2;simp;omega)))
        ·split
         ·exact .wrong
         ·exact .ok (by omega) r4 h3
   primary:=fun z hz hk=>by
    rw[primary]
    have hbd:∀ z',z≤z'→z'≤t.length→Res t (z'+1) xe (within t (body qa t m) z'):=fun z' h1 h2=>wA fun z2 h3 h4=>E.body z2 h4 (by omega)
    split
    ·exact(qau z).bind fun k z1 h1 h2 _=> .ok h1 h2 (qx zd (by simp))
    ·split
     ·rename_i h
      exact .ok (Nat.le_refl _) (qca h) (je zd (by simp))
     ·split
      ·exact(hbd z (Nat.le_refl _) hz).bind fun b z1 h1 h2 h3=> .ok h1 h2 (yc (s1 h3) (by simp))
      ·split
       ·exact wA fun z2 h3 h4=>E.expr z2 h4 (by omega)
       ·refine(jx _ z hz).bind fun op z1 h1 h2 h3=>?_
        have hcol:Res t (z+1) xe (column qa t z1):=(za5 z1).mono (by omega) fun _ _ _ h=>h
        have hne:∀ w:List UInt8,(w == [])=false→(op == w)=true→z+1≤z1:=fun w hw h=>h3 (by rw[beq_iff_eq.1 h];exact hw)
        split
        ·rename_i h;exact .ok (hne _ rfl h) h2 (qx zd (by simp))
        ·split
         ·rename_i h;exact .ok (hne _ rfl h) h2 (yc zd (by simp))
         ·split
          ·rename_i h;exact .ok (hne _ rfl h) h2 (yc zd (by simp))
          ·split
           ·exact(hbd z1 (by omega) h2).bind fun b z2 r1 r2 r3=> .ok (by omega) r2 (yc (s1 r3) (by simp))
           ·split
            ·rename_i h
             have:=hne _ rfl h
             exact(E.cases z1 h2 (by omega)).mono (by omega) fun _ _ _ h=>h
            ·split
             ·exact(wA (part:=primCast qa t m) (z:=z1) fun z2 h3 h4=>E.primCast z2 h4 (by omega)).mono (by omega) fun _ _ _ h=>h
             ·split
              ·exact(wL (part:=exprs qa t m) (z:=z1) fun z2 w1 w2=>E.exprs z2 w2 (by omega)).bind fun l z2 r5 r6 r7=> .ok (by omega) r6 (yc r7.1 (by have:=r7.2;omega))
              ·split
               ·exact(wA (part:=primNullif qa t m) (z:=z1) fun z2 h3 h4=>E.primNullif z2 h4 (by omega)).mono (by omega) fun _ _ _ h=>h
               ·split
                ·exact(wA (part:=primTotal qa t m op) (z:=z1) fun z2 h3 h4=>E.primTotal op z2 h4 (by omega)).mono (by omega) fun _ _ _ h=>h
                ·exact hcol
   primCast:=fun z hz hk=>by
    rw[primCast]
    exact(E.expr z hz (by omega)).bind fun e z1 h1 h2 h3=>(xh _ z1).bind fun _ z2 h4 h5 _=>(zb4 z2 h5).bind fun ty z3 h6 h7 h8=> .ok (by omega) h7 (yc (s2 h8 h3) (by simp))
   primNullif:=fun z hz hk=>by
    rw[primNullif]
    exact(E.expr z hz (by omega)).bind fun e z1 h1 h2 h3=>(xh _ z1).bind fun _ z2 h4 h5 _=>(E.expr z2 h5 (by omega)).bind fun b z3 h6 h7 h8=> .ok (by omega) h7 (yc (s2 h3 h8) (by simp))
   primTotal:=fun w z hz hk=>by
    rw[primTotal]
    split
    ·rename_i h
     simp only[Bool.and_eq_true] at h
     exact .ok (Nat.le_refl _) (qan h.2) (yc zd (by simp))
    ·exact(jx _ z hz).bind fun q z1 h1 h2 _=>(E.expr z1 h2 (by omega)).bind fun e z2 h3 h4 h5=> .ok (by omega) h4 (qx (s1 h5) (by simp))
   cases:=fun z hz hk=>by
    rw[cases]
    have he:∀ z',z≤z'→z'≤t.length→Res t (z'+1) xe (expr qa t m z'):=fun z' h1 h2=>E.expr z' h2 (by omega)
    split
    ·rename_i h
     have hlt:=qan h
     have hfirst:Res t (z+1) zu (qd t (expr qa t m) m none true [] z):=by
      have h0:=jan (t:=t) (ex:=expr qa t m) none (fun _ h=>nomatch h) m true [] z zd (by simp;omega) hz (by omega) fun z' h1 h2=>he z' (by omega) h2
      refine⟨h0.1,fun a z' q=>?_⟩
      obtain⟨r1,r2,r3⟩:=h0.2 a z' q
      refine⟨?_,r2,r3⟩
      cases m with
      |zero=>cases q
      |succ m=>
       have hc:qd t (expr qa t (m+1)) (m+1) none true [] z=(need t k_when z).bind fun _ z=>(expr qa t (m+1) z).bind fun c z=>(need t xb9 z).bind fun _ z=>(expr qa t (m+1) z).bind fun e z=>qd t (expr qa t (m+1)) m none false ([]++[node k_when [c,e]]) z:=rfl
       rw[hc] at q
       have h9:Res t (z+1) (fun(_:List Nd) _=>True) ((need t k_when z).bind fun _ z=>(expr qa t (m+1) z).bind fun c z=>(need t xb9 z).bind fun _ z=>(expr qa t (m+1) z).bind fun e z=>qd t (expr qa t (m+1)) m none false ([]++[node k_when [c,e]]) z):=
        (xh _ z).bind fun _ z1 h1 h2 _=>(he z1 (by omega) h2).bind fun c z2 h3 h4 h5=>(xh _ z2).bind fun _ z3 h6 h7 _=>(he z3 (by omega) h7).bind fun e z4 h8 h9 h10=>
          (jan (t:=t) (ex:=expr qa t (m+1)) none (fun _ h=>nomatch h) m false _ z4 (qaa zd (yc (s2 h5 h10) (by simp))) (by simp;omega) h9 (by omega) fun z' h1 h2=>he z' (by omega) h2).mono (by omega) fun _ _ _ _=>trivial
       exact(h9.2 a z' q).1
     exact hfirst.bind fun l z1 h1 h2 h3=>(xa8 l h3 z1 h2 fun z' q1 q2=>he z' (by omega) q2).mono h1 fun _ _ _ h=>h
    ·exact(he z (Nat.le_refl _) hz).bind fun e z1 h1 h2 h3=>(jan (t:=t) (ex:=expr qa t m) (some e) (fun o h=>by cases h;exact h3) m true [] z1 zd (by simp;omega) h2 (by omega) fun z' q1 q2=>he z' (by omega) q2).bind fun l z2 q1 q2 q3=>
      (xa8 l q3 z2 q2 fun z' r1 r2=>he z' (by omega) r2).mono (by omega) fun _ _ _ h=>h
   body:=fun z hz hk=>by
    rw[body]
    exact ybq _ hz (by omega) fun z' h1 h2=>E.term z' h2 (by omega)
   term:=fun z hz hk=>by
    rw[term]
    exact ybq _ hz (by omega) fun z' h1 h2=>E.simple z' h2 (by omega)
   simple:=fun z hz hk=>by
    rw[simple]
    split
    ·exact wA fun z2 h3 h4=>E.body z2 h4 (by omega)
    ·exact(xh _ z).bind fun _ z1 h1 h2 _=>(jx _ z1 h2).bind fun q z2 h3 h4 _=>(zt (Q:=xe) (fun _ _ h=>h) h4 (by omega) (by omega) fun z' q1 q2=>E.item z' q2 (by omega)).bind fun items z3 h5 h6 h7=>(xh _ z3).bind fun _ z4 h8 h9 _=>
      (zt (Q:=xe) (fun _ _ h=>h) h9 (by omega) (by omega) fun z' q1 q2=>E.table z' q2 (by omega)).bind fun from_ z5 h10 h11 h12=>(jbf (Q:=xe) (fun _ _ h=>h) _ z5 h11 fun z' q1 q2=>(E.expr z' q2 (by omega)).mono (by omega) fun _ _ _ h=>h).bind fun wh z6 h13 h14 h15=>
        (yb4 z6 h14 (by omega) (by omega)).bind fun gr z7 h16 h17 h18=>(jbf (Q:=xe) (fun _ _ h=>h) _ z7 h17 fun z' q1 q2=>(E.expr z' q2 (by omega)).mono (by omega) fun _ _ _ h=>h).bind fun hv z8 h19 h20 h21=>
          .ok (by omega) h20 (qx (qg (yc h7.1 (by have:=h7.2;omega)) (qg (yc h12.1 (by have:=h12.2;omega)) (s3 (yc h15.1 (by have:=h15.2;omega)) (yc h18.1 (by have:=h18.2;omega)) (yc h21.1 (by have:=h21.2;omega))))) (by simp))
   item:=fun z hz hk=>by
    rw[item]
    refine(qe _ [] z hz).bind fun st z1 h1 h2 h3=>?_
    cases st
    ·simp only[]
     split
     ·rename_i h
      simp only[Bool.and_eq_true] at h
      have hlt:=qan h.2
      have hnm:∀ s z2,name qa t z1= .ok s z2→z2=z1+1:=by
       intro s z2 q
       unfold name at q
       split at q
       ·cases q;rfl
       ·cases q
      refine⟨?_,?_⟩
      ·intro q
       cases hq:name qa t z1 with
       |fuel=>exact(jk z1).1 hq
       |wrong=>rw[hq] at q;cases q
       |ok s z2=>rw[hq] at q;cases q
      ·intro a z' q
       cases hq:name qa t z1 with
       |fuel=>rw[hq] at q;cases q
       |wrong=>rw[hq] at q;cases q
       |ok s z2=>
        rw[hq] at q
        simp only[Rs.bind,Rs.ok.injEq] at q
        obtain⟨rfl,rfl⟩:=q
        have:=hnm s z2 hq
        exact⟨by omega,by omega,je zd (by simp)⟩
     ·exact(E.expr z1 h2 (by omega)).bind fun e z2 q1 q2 q3=>(xb5 _ z2 q2).bind fun s z3 q4 q5 _=> .ok (by omega) q5 (je (s1 q3) (by simp))
    ·exact .ok (h3 rfl) h2 (yc zd (by simp))
   table:=fun z hz hk=>by
    rw[table]
    exact(E.joined z hz (by omega)).bind fun a z1 h1 h2 h3=>(xbx m a z1 h3 h2 (by omega) (fun z' q1 q2=>E.joined z' q2 (by omega)) (fun z' q1 q2=>E.expr z' q2 (by omega))).mono h1 fun _ _ _ h=>h
   joined:=fun z hz hk=>by
    rw[joined]
    split
    ·exact(wA (part:=body qa t m) (z:=z) fun z2 h3 h4=>E.body z2 h4 (by omega)).bind fun b z1 h1 h2 h3=>(qe _ [] z1 h2).bind fun _ z2 h4 h5 _=>(jk z2).bind fun s z3 h6 h7 _=> .ok (by omega) h7 (je (s1 h3) (by simp))
    ·split
     ·exact wA fun z2 h3 h4=>E.table z2 h4 (by omega)
     ·exact(jk z).bind fun s z1 h1 h2 _=>(xb5 _ z1 h2).bind fun al z2 h3 h4 _=> .ok (by omega) h4 (je (s1 (je zd (by simp))) (by simp)) }
end Go.AM.Ps
namespace Go.AM.Ps
open W
section
variable {t:List Tk}
theorem jd2(z:Nat)(hz:z≤t.length):Res t (z+1) xe (keyP qa t z):=by
 unfold keyP
 have h0:Res t (z+1) xe (match isKind t 1 z with
  |true=>(number t z).bind fun k z=> .ok (Nd.mk qdl [] k []) z
  |false=>column qa t z):=by
  split
  ·exact(qau z).bind fun k z1 h1 h2 _=> .ok h1 h2 (qx zd (by simp))
  ·exact za5 z
 refine h0.bind fun e z1 h1 h2 h3=>(jx _ z1 h2).bind fun s z2 h4 h5 _=>?_
 split
 ·exact .ok (by omega) h5 (je (s1 h3) (by simp))
 ·exact .ok (by omega) h5 (je (s1 h3) (by simp))
variable {n:Nat}
theorem jba(hn:30 * (t.length+1)+40≤n)(hn2:n≤1000000000)(z:Nat)(hz:z≤t.length):Res t (z+1) xe (expr qa t n z):=(xbz t n hn2).expr z hz (by omega)
theorem zcr(hn:30 * (t.length+1)+40≤n)(hn2:n≤1000000000)(z:Nat)(hz:z≤t.length):Res t (z+1) xe (body qa t n z):=(xbz t n hn2).body z hz (by omega)
theorem vaz(hn:30 * (t.length+1)+40≤n)(hn2:n≤1000000000)(z:Nat)(hz:z≤t.length):Res t (z+1) zu (names qa t n z):=by
 unfold names
 exact zaa (fun _ _ _ h=>h) fun z' h1 h2=>(zt (Q:=xe) (fun _ _ h=>h) h2 (by omega) hn2 fun z' _ _=>qdj z').mono (by omega) fun _ _ _ h=>h
theorem xb4(hn:30 * (t.length+1)+40≤n)(hn2:n≤1000000000)(z:Nat)(hz:z≤t.length):Res t z xe (query qa t n z):=by
 unfold query
 refine(zcr hn hn2 z hz).bind fun b z1 h1 h2 h3=>(qe _ _ z1 h2).bind fun o z2 h4 h5 _=>?_
 split
 ·exact(zt (Q:=xe) (fun _ _ h=>h) h5 (by omega) hn2 fun z' _ h=>jd2 z' h).bind fun l z3 h6 h7 h8=> .ok (by omega) h7 (yc (s2 h3 (yc h8.1 (by have:=h8.2;omega))) (by simp))
 ·exact .ok (by omega) h5 (yc (s2 h3 (yc zd (by simp))) (by simp))
theorem qb4(hn:30 * (t.length+1)+40≤n)(hn2:n≤1000000000)(z:Nat)(hz:z≤t.length):Res t z xe (whose qa t n z):=by
 unfold whose
 refine(qe _ _ z hz).bind fun w z1 h1 h2 _=>?_
 split
 ·exact .ok h1 h2 (yc zd (by simp))
 ·refine(qe _ _ z1 h2).bind fun c z2 h3 h4 _=>?_
  split
  ·exact(jk z2).bind fun s z3 h5 h6 _=> .ok (by omega) h6 (je zd (by simp))
  ·exact(jba hn hn2 z2 h4).bind fun e z3 h5 h6 h7=> .ok (by omega) h6 (yc (s1 h7) (by simp))
theorem qd2(hn:30 * (t.length+1)+40≤n)(hn2:n≤1000000000)(z:Nat)(hz:z≤t.length):Res t (z+1) xe (setE qa t n z):=by
 unfold setE
 exact(jk z).bind fun s z1 h1 h2 _=>(xh _ z1).bind fun _ z2 h3 h4 _=>(jba hn hn2 z2 h4).bind fun e z3 h5 h6 h7=> .ok (by omega) h6 (je (s1 h7) (by simp))
theorem zd2(hn:30 * (t.length+1)+40≤n)(hn2:n≤1000000000)(z:Nat)(hz:z≤t.length):Res t (z+1) xe (rowP qa t n z):=by
 unfold rowP
 exact(zaa (Q:=zu) (fun _ _ _ h=>h) fun z' h1 h2=>((xbz t n hn2).exprs z' h2 (by omega)).mono (by omega) fun _ _ _ h=>h).bind fun l z1 h1 h2 h3=> .ok h1 h2 (yc h3.1 (by have:=h3.2;omega))
theorem zch(hn:30 * (t.length+1)+40≤n)(hn2:n≤1000000000)(z:Nat)(hz:z≤t.length):Res t z xe (insertP qa t n z):=by
 unfold insertP
 refine(jk z).bind fun s z1 h1 h2 _=>?_
 have hc:Res t z1 zu (jt qa t n z1):=by
  unfold jt
  split
  ·exact(vaz hn hn2 z1 h2).mono (by omega) fun _ _ _ h=>h
  ·exact .ok (Nat.le_refl _) h2 ⟨zd,by simp⟩
 refine hc.bind fun cols z2 h3 h4 h5=>(qe _ _ z2 h4).bind fun v z3 h6 h7 _=>?_
 split
 ·exact(zt (Q:=xe) (fun _ _ h=>h) h7 (by omega) hn2 fun z' _ h=>zd2 hn hn2 z' h).bind fun l z4 h8 h9 h10=> .ok (by omega) h9 (je (s2 (yc h5.1 (by have:=h5.2;omega)) (yc h10.1 (by have:=h10.2;omega))) (by simp))
 ·exact(zcr hn hn2 z3 h7).bind fun b z4 h8 h9 h10=> .ok (by omega) h9 (je (s2 (yc h5.1 (by have:=h5.2;omega)) h10) (by simp))
theorem vb4(hn:30 * (t.length+1)+40≤n)(hn2:n≤1000000000):∀(m:Nat) (l:List Nd) (z:Nat),z≤t.length→t.length+1-z≤m→ym l→l.length+m≤1500000000→Res t z zu (yh qa t n m l z):=by
 intro m
 induction m with
 |zero=>intro l z hz hm;omega
 |succ m ih=>
  intro l z hz hm hl hlm
  unfold yh
  have next:∀(x:Nd) z2,Small x→z+1≤z2→z2≤t.length→Res t z zu (yh qa t n m (l++[x]) z2):=fun x z2 h1 h2 h3=>
   (ih (l++[x]) z2 h3 (by omega) (qaa hl h1) (by simp;omega)).mono (by omega) fun _ _ _ h=>h
  refine(qe _ _ z hz).bind fun a z1 h1 h2 h3=>?_
  cases a with
  |true=>exact next _ z1 (yc zd (by simp)) (h3 rfl) h2
  |false=>
  refine(qe _ _ z1 h2).bind fun a z2 h4 h5 h6=>?_
  cases a with
  |true=>have:=h6 rfl;exact next _ z2 (yc zd (by simp)) (by omega) h5
  |false=>
  refine(qe _ _ z2 h5).bind fun a z3 h7 h8 h9=>?_
  cases a with
  |true=>have:=h9 rfl;exact next _ z3 (yc zd (by simp)) (by omega) h8
  |false=>
  refine(qe _ _ z3 h8).bind fun a z4 h10 h11 h12=>?_
  cases a with
  |true=>
   have:=h12 rfl
   exact(zaa (Q:=xe) (fun _ _ _ h=>h) fun z' q1 q2=>(jba hn hn2 z' q2).mono (by omega) fun _ _ _ h=>h).bind fun e z5 r1 r2 r3=>next _ z5 (yc (s1 r3) (by simp)) (by omega) r2
  |false=>
  refine(qe _ _ z4 h11).bind fun a z5 h13 h14 h15=>?_
  cases a with
  |true=>
   have:=h15 rfl
   exact(jk z5).bind fun s z6 r1 r2 _=>next _ z6 (je zd (by simp)) (by omega) r2
  |false=>exact .ok (by omega) h14 ⟨hl,by omega⟩
theorem jch(hn:30 * (t.length+1)+40≤n)(hn2:n≤1000000000)(z:Nat)(hz:z≤t.length):Res t (z+1) xe (element qa t n z):=by
 unfold element
 have nm:∀(f:List Nd→Nd) z1,(∀ l,ym l→l.length≤2000000000→Small (f l))→z≤z1→z1≤t.length→Res t (z+1) xe ((names qa t n z1).bind fun l z=> .ok (f l) z):=fun f z1 hf h1 h2=>
  (vaz hn hn2 z1 h2).bind fun l z2 h3 h4 h5=> .ok (by omega) h4 (hf l h5.1 (by have:=h5.2;omega))
 refine(qe _ _ z hz).bind fun a z1 h1 h2 h3=>?_
 cases a with
 |true=>exact nm (fun l=>node qy l) z1 (fun l a b=>yc a b) h1 h2
 |false=>
 refine(qe _ _ z1 h2).bind fun a z2 h4 h5 h6=>?_
 cases a with
 |true=>exact nm (fun l=>node yx l) z2 (fun l a b=>yc a b) (by omega) h5
 |false=>
 refine(qe _ _ z2 h5).bind fun a z3 h7 h8 h9=>?_
 cases a with
 |true=>exact(zaa (Q:=xe) (fun _ _ _ h=>h) fun z' q1 q2=>(jba hn hn2 z' q2).mono (by omega) fun _ _ _ h=>h).bind fun e z5 r1 r2 r3=> .ok (by omega) r2 (yc (s1 r3) (by simp))
 |false=>
 refine(qe _ _ z3 h8).bind fun a z4 h10 h11 h12=>?_
 cases a with
 |true=>exact(vaz hn hn2 z4 h11).bind fun l z5 h13 h14 h15=>(xh _ z5).bind fun _ z6 h16 h17 _=>(jk z6).bind fun s z7 h18 h19 _=> .ok (by omega) h19 (je h15.1 (by have:=h15.2;omega))
 |false=>
  exact(jk z4).bind fun s z5 h13 h14 _=>(zb4 z5 h14).bind fun ty z6 h15 h16 h17=>(vb4 hn hn2 n [ty] z6 h16 (by omega) (s1 h17) (by simp;omega)).bind fun l z7 h18 h19 h20=> .ok (by omega) h19 (je h20.1 (by have:=h20.2;omega))
theorem xc1(hn:30 * (t.length+1)+40≤n)(hn2:n≤1000000000)(z:Nat)(hz:z≤t.length):Res t z xe (create qa t n z):=by
 unfold create
 refine(qe _ _ z hz).bind fun a z1 h1 h2 h3=>?_
 split
 ·exact(jk z1).bind fun s z2 h4 h5 _=>(zaa (Q:=zu) (fun _ _ _ h=>h) fun z' q1 q2=>(zt (Q:=xe) (fun _ _ h=>h) q2 (by omega) hn2 fun z' _ h=>jch hn hn2 z' h).mono (by omega) fun _ _ _ h=>h).bind fun l z3 h6 h7 h8=> .ok (by omega) h7 (je h8.1 (by have:=h8.2;omega))
 ·refine(qe _ _ z1 h2).bind fun u z2 h4 h5 _=>(xh _ z2).bind fun _ z3 h6 h7 _=>(jk z3).bind fun s z4 h8 h9 _=>(xh _ z4).bind fun _ z5 h10 h11 _=>(jk z5).bind fun o z6 h12 h13 _=>(vaz hn hn2 z6 h13).bind fun l z7 h14 h15 h16=>?_
  exact .ok (by omega) h15 (qx (qg (je zd (by simp)) h16.1) (by have:=h16.2;simp;omega))
theorem qch(hn:30 * (t.length+1)+40≤n)(hn2:n≤1000000000)(z:Nat)(hz:z≤t.length):Res t z xe (updateP qa t n z):=by
 unfold updateP
 exact(jk z).bind fun s z1 h1 h2 _=>(xh _ z1).bind fun _ z2 h3 h4 _=>(zt (Q:=xe) (fun _ _ h=>h) h4 (by omega) hn2 fun z' _ h=>qd2 hn hn2 z' h).bind fun l z3 h5 h6 h7=>(qb4 hn hn2 z3 h6).bind fun w z4 h8 h9 h10=>
  .ok (by omega) h9 (je (qaa h7.1 h10) (by have:=h7.2;simp;omega))
theorem ydi(z:Nat)(hz:z≤t.length):Res t z (fun _ _=>True) (level t z):=by
 unfold level
 refine(jx _ z hz).bind fun w z1 h1 h2 _=>?_
 split
 ·refine(qe _ _ z1 h2).bind fun u z2 h3 h4 _=>?_
  split
  ·exact .ok (by omega) h4 trivial
  ·exact(xh _ z2).bind fun _ z3 h5 h6 _=> .ok (by omega) h6 trivial
 ·split
  ·exact(xh _ z1).bind fun _ z3 h5 h6 _=> .ok (by omega) h6 trivial
  ·split
   ·exact .ok (by omega) h2 trivial
   ·exact .wrong
theorem xd2(z:Nat)(hz:z≤t.length):Res t z (fun _ _=>True) (forP t z):=by
 unfold forP
 refine(qe _ _ z hz).bind fun w z1 h1 h2 _=>?_
 split
 ·exact .ok h1 h2 trivial
 ·refine(jx _ z1 h2).bind fun u z2 h3 h4 _=>?_
  split
  ·exact(xh _ z2).bind fun _ z3 h5 h6 _=> .ok (by omega) h6 trivial
  ·split
   ·exact .ok (by omega) h4 trivial
   ·exact .wrong
theorem jb5(hn:30 * (t.length+1)+40≤n)(hn2:n≤1000000000)(z:Nat)(hz:z≤t.length):Res t z xe (declareP qa t n z):=by
 unfold declareP
 exact(jk z).bind fun s z1 h1 h2 _=>(qe _ _ z1 h2).bind fun sc z2 h3 h4 _=>(xh _ z2).bind fun _ z3 h5 h6 _=>(xh _ z3).bind fun _ z4 h7 h8 _=>(xb4 hn hn2 z4 h8).bind fun q z5 h9 h10 h11=>(xd2 z5 h10).bind fun f z6 h12 h13 _=>
  .ok (by omega) h13 (qx (s2 h11 (je zd (by simp))) (by simp))
theorem jej(z:Nat)(hz:z≤t.length):Res t z xe (way t z):=by
 unfold way
 refine(jx _ z hz).bind fun op z1 h1 h2 _=>?_
 split
 ·exact .ok h1 h2 (yc zd (by simp))
 ·split
  ·exact(qe _ _ z1 h2).bind fun m z2 h3 h4 _=>(qau z2).bind fun k z3 h5 h6 _=> .ok (by omega) h6 (qx zd (by simp))
  ·exact .ok h1 h2 (yc zd (by simp))
theorem zan(hn:30 * (t.length+1)+40≤n)(hn2:n≤1000000000):Res t 0 xe (statement qa t n 0):=by
 have nm:∀(f:List UInt8→Nd) z1,(∀ l,Small (f l))→z1≤t.length→Res t 0 xe ((name qa t z1).bind fun l z=> .ok (f l) z):=fun f z1 hf h2=>
  (jk z1).bind fun l z2 h3 h4 h5=> .ok (Nat.zero_le _) h4 (hf l)
 have nd0:∀ op,Small (node op []):=fun op=>yc zd (by simp)
 have nd1:∀ op s,Small (named op s []):=fun op s=>je zd (by simp)
 have zz:∀ {z:Nat} {r:Rs Nd},Res t z xe r→Res t 0 xe r:=fun h=>h.mono (Nat.zero_le _) fun _ _ _ h=>h
 unfold statement
 split
 ·exact zz (xb4 hn hn2 0 (Nat.zero_le _))
 ·refine(qe _ _ 0 (Nat.zero_le _)).bind fun a z1 _ h1 _=>?_
  cases a with
  |true=>exact zz (xc1 hn hn2 z1 h1)
  |false=>
  refine(qe _ _ z1 h1).bind fun a z2 _ h2 _=>?_
  cases a with
  |true=>
   refine(qe _ _ z2 h2).bind fun a z3 _ h3 _=>?_
   cases a with
   |true=>exact nm (fun s=>named xax s []) z3 (fun _=>nd1 _ _) h3
   |false=>exact(xh _ z3).bind fun _ z4 _ h4 _=>nm (fun s=>named vax s []) z4 (fun _=>nd1 _ _) h4
  |false=>
  refine(qe _ _ z2 h2).bind fun a z3 _ h3 _=>?_
  cases a with
  |true=>exact zz (zch hn hn2 z3 h3)
  |false=>
  refine(qe _ _ z3 h3).bind fun a z4 _ h4 _=>?_
  cases a with
  |true=>exact zz (qch hn hn2 z4 h4)
  |false=>
  refine(qe _ _ z4 h4).bind fun a z5 _ h5 _=>?_
  cases a with
  |true=>exact(jk z5).bind fun s z6 _ h6 _=>(qb4 hn hn2 z6 h6).bind fun w z7 _ h7 h8=> .ok (Nat.zero_le _) h7 (je (s1 h8) (by simp))
  |false=>
  refine(qe _ _ z5 h5).bind fun a z6 _ h6 _=>?_
  cases a with
  |true=>exact .ok (Nat.zero_le _) h6 (nd0 _)
  |false=>
  refine(qe _ _ z6 h6).bind fun a z7 _ h7 _=>?_
  cases a with
  |true=>
   refine(qe _ _ z7 h7).bind fun a z8 _ h8 _=>?_
   cases a with
   |false=>exact .ok (Nat.zero_le _) h8 (nd0 _)
   |true=>exact(qe _ _ z8 h8).bind fun _ z9 _ h9 _=>nm (fun s=>named jar s []) z9 (fun _=>nd1 _ _) h9
  |false=>
  refine(qe _ _ z7 h7).bind fun a z8 _ h8 _=>?_
  cases a with
  |true=>exact nm (fun s=>named k_savepoint s []) z8 (fun _=>nd1 _ _) h8
  |false=>
  refine(qe _ _ z8 h8).bind fun a z9 _ h9 _=>?_
  cases a with
  |true=>exact(qe _ _ z9 h9).bind fun _ z10 _ h10 _=>nm (fun s=>named k_release s []) z10 (fun _=>nd1 _ _) h10
  |false=>
  refine(qe _ _ z9 h9).bind fun a z10 _ h10 _=>?_
  cases a with
  |true=>exact(ydi z10 h10).bind fun k z11 _ h11 _=> .ok (Nat.zero_le _) h11 (qx zd (by simp))
  |false=>
  refine(qe _ _ z10 h10).bind fun a z11 _ h11 _=>?_
  cases a with
  |true=>exact zz (jb5 hn hn2 z11 h11)
  |false=>
  refine(qe _ _ z11 h11).bind fun a z12 _ h12 _=>?_
  cases a with
  |true=>exact nm (fun s=>named k_open s []) z12 (fun _=>nd1 _ _) h12
  |false=>
  refine(qe _ _ z12 h12).bind fun a z13 _ h13 _=>?_
  cases a with
  |true=>exact nm (fun s=>named k_close s []) z13 (fun _=>nd1 _ _) h13
  |false=>
  refine(qe _ _ z13 h13).bind fun a z14 _ h14 _=>?_
  cases a with
  |true=>exact(jej z14 h14).bind fun w z15 _ h15 h16=>(qe _ _ z15 h15).bind fun _ z16 _ h17 _=>(jk z16).bind fun s z17 _ h18 _=> .ok (Nat.zero_le _) h18 (je (s1 h16) (by simp))
  |false=>exact .wrong
end
end Go.AM.Ps
