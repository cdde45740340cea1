/- What the program's parser answers, in plain words. -/
import Derived.Test.YteomefghofhkiaaGreatDoorRdScanC
namespace Go.AM.W
abbrev qah:List UInt8:=[110,111,116]
abbrev k_or:List UInt8:=[111,114]
abbrev xaj:List UInt8:=[97,110,100]
abbrev vaj:List UInt8:=[97,108,108]
abbrev ybn:List UInt8:=[97,110,121]
abbrev vbs:List UInt8:=[115,111,109,101]
abbrev k_is:List UInt8:=[105,115]
abbrev jy:List UInt8:=[110,117,108,108]
abbrev qaw:List UInt8:=[116,114,117,101]
abbrev jaj:List UInt8:=[102,97,108,115,101]
abbrev zal:List UInt8:=[117,110,107,110,111,119,110]
abbrev yal:List UInt8:=[98,101,116,119,101,101,110]
abbrev ybs:List UInt8:=[108,105,107,101]
abbrev k_in:List UInt8:=[105,110]
abbrev zn:List UInt8:=[115,101,108,101,99,116]
abbrev qav:List UInt8:=[101,120,105,115,116,115]
abbrev xy:List UInt8:=[99,97,115,101]
abbrev qa2:List UInt8:=[99,97,115,116]
abbrev zaf:List UInt8:=[99,111,97,108,101,115,99,101]
abbrev zae:List UInt8:=[110,117,108,108,105,102]
abbrev k_count:List UInt8:=[99,111,117,110,116]
abbrev jcl:List UInt8:=[115,117,109]
abbrev vcl:List UInt8:=[109,105,110]
abbrev ycl:List UInt8:=[109,97,120]
abbrev k_when:List UInt8:=[119,104,101,110]
abbrev xb9:List UInt8:=[116,104,101,110]
abbrev vb9:List UInt8:=[101,108,115,101]
abbrev zc6:List UInt8:=[101,110,100]
abbrev k_as:List UInt8:=[97,115]
abbrev k_from:List UInt8:=[102,114,111,109]
abbrev k_where:List UInt8:=[119,104,101,114,101]
abbrev k_group:List UInt8:=[103,114,111,117,112]
abbrev k_having:List UInt8:=[104,97,118,105,110,103]
abbrev qbi:List UInt8:=[111,114,100,101,114]
abbrev k_by:List UInt8:=[98,121]
abbrev zbz:List UInt8:=[97,115,99]
abbrev jbi:List UInt8:=[100,101,115,99]
abbrev jj:List UInt8:=[117,110,105,111,110]
abbrev ji:List UInt8:=[101,120,99,101,112,116]
abbrev ye:List UInt8:=[105,110,116,101,114,115,101,99,116]
abbrev jp:List UInt8:=[100,105,115,116,105,110,99,116]
abbrev k_create:List UInt8:=[99,114,101,97,116,101]
abbrev k_drop:List UInt8:=[100,114,111,112]
abbrev qa6:List UInt8:=[116,97,98,108,101]
abbrev za6:List UInt8:=[105,110,100,101,120]
abbrev k_insert:List UInt8:=[105,110,115,101,114,116]
abbrev jdq:List UInt8:=[105,110,116,111]
abbrev k_update:List UInt8:=[117,112,100,97,116,101]
abbrev k_set:List UInt8:=[115,101,116]
abbrev k_delete:List UInt8:=[100,101,108,101,116,101]
abbrev k_commit:List UInt8:=[99,111,109,109,105,116]
abbrev k_rollback:List UInt8:=[114,111,108,108,98,97,99,107]
abbrev k_to:List UInt8:=[116,111]
abbrev k_savepoint:List UInt8:=[115,97,118,101,112,111,105,110,116]
abbrev k_release:List UInt8:=[114,101,108,101,97,115,101]
abbrev xa1:List UInt8:=[116,114,97,110,115,97,99,116,105,111,110]
abbrev vaa:List UInt8:=[105,115,111,108,97,116,105,111,110]
abbrev zdq:List UInt8:=[108,101,118,101,108]
abbrev k_declare:List UInt8:=[100,101,99,108,97,114,101]
abbrev k_open:List UInt8:=[111,112,101,110]
abbrev k_close:List UInt8:=[99,108,111,115,101]
abbrev k_fetch:List UInt8:=[102,101,116,99,104]
abbrev xct:List UInt8:=[115,99,114,111,108,108]
abbrev yba:List UInt8:=[99,117,114,115,111,114]
abbrev zbi:List UInt8:=[102,111,114]
abbrev xap:List UInt8:=[114,101,97,100]
abbrev vct:List UInt8:=[111,110,108,121]
abbrev qai:List UInt8:=[114,101,112,101,97,116,97,98,108,101]
abbrev zab:List UInt8:=[115,101,114,105,97,108,105,122,97,98,108,101]
abbrev jao:List UInt8:=[117,110,99,111,109,109,105,116,116,101,100]
abbrev xbi:List UInt8:=[99,111,109,109,105,116,116,101,100]
abbrev k_next:List UInt8:=[110,101,120,116]
abbrev k_prior:List UInt8:=[112,114,105,111,114]
abbrev k_first:List UInt8:=[102,105,114,115,116]
abbrev k_last:List UInt8:=[108,97,115,116]
abbrev k_absolute:List UInt8:=[97,98,115,111,108,117,116,101]
abbrev k_relative:List UInt8:=[114,101,108,97,116,105,118,101]
abbrev yx:List UInt8:=[117,110,105,113,117,101]
abbrev k_on:List UInt8:=[111,110]
abbrev qy:List UInt8:=[112,114,105,109,97,114,121]
abbrev vbn:List UInt8:=[107,101,121]
abbrev k_check:List UInt8:=[99,104,101,99,107]
abbrev va1:List UInt8:=[102,111,114,101,105,103,110]
abbrev qw:List UInt8:=[114,101,102,101,114,101,110,99,101,115]
abbrev qaf:List UInt8:=[115,109,97,108,108,105,110,116]
abbrev jac:List UInt8:=[105,110,116,101,103,101,114]
abbrev xdq:List UInt8:=[105,110,116]
abbrev zav:List UInt8:=[98,105,103,105,110,116]
abbrev xal:List UInt8:=[98,111,111,108,101,97,110]
abbrev jal:List UInt8:=[99,104,97,114]
abbrev yaf:List UInt8:=[99,104,97,114,97,99,116,101,114]
abbrev qal:List UInt8:=[118,97,114,99,104,97,114]
abbrev k_values:List UInt8:=[118,97,108,117,101,115]
abbrev ya1:List UInt8:=[99,117,114,114,101,110,116]
abbrev k_of:List UInt8:=[111,102]
abbrev k_cross:List UInt8:=[99,114,111,115,115]
abbrev k_inner:List UInt8:=[105,110,110,101,114]
abbrev k_left:List UInt8:=[108,101,102,116]
abbrev k_right:List UInt8:=[114,105,103,104,116]
abbrev k_full:List UInt8:=[102,117,108,108]
abbrev zw:List UInt8:=[106,111,105,110]
abbrev k_outer:List UInt8:=[111,117,116,101,114]
abbrev g_par:List UInt8:=[40]
abbrev g_rap:List UInt8:=[41]
abbrev g_comma:List UInt8:=[44]
abbrev xcm:List UInt8:=[46]
abbrev va2:List UInt8:=[59]
abbrev g_eq:List UInt8:=[61]
abbrev g_ne:List UInt8:=[60,62]
abbrev g_le:List UInt8:=[60,61]
abbrev g_ge:List UInt8:=[62,61]
abbrev g_lt:List UInt8:=[60]
abbrev g_gt:List UInt8:=[62]
abbrev xac:List UInt8:=[43]
abbrev yj:List UInt8:=[45]
abbrev xas:List UInt8:=[124,124]
abbrev g_star:List UInt8:=[42]
abbrev vp:List UInt8:=[47]
abbrev yeu:List UInt8:=[110,101,103]
abbrev jbg:List UInt8:=[113,117,101,114,121]
abbrev qcs:List UInt8:=[115,99,97,108,97,114]
abbrev qdl:List UInt8:=[110,117,109]
abbrev jee:List UInt8:=[116,101,120,116]
abbrev zcs:List UInt8:=[98,111,111,108]
abbrev jd5:List UInt8:=[99,111,108]
abbrev o_items:List UInt8:=[105,116,101,109,115]
abbrev xee:List UInt8:=[105,116,101,109]
abbrev xbg:List UInt8:=[110,97,109,101]
abbrev xax:List UInt8:=[100,114,111,112,32,116,97,98,108,101]
abbrev vax:List UInt8:=[100,114,111,112,32,105,110,100,101,120]
abbrev jar:List UInt8:=[114,111,108,108,98,97,99,107,32,116,111]
abbrev va0:List UInt8:=[99,114,101,97,116,101,32,116,97,98,108,101]
abbrev yad:List UInt8:=[99,114,101,97,116,101,32,105,110,100,101,120]
abbrev yb7:List UInt8:=[110,111,116,110,117,108,108]
abbrev qae:List UInt8:=[99,111,108,117,109,110]
abbrev vaf:List UInt8:=[116,121,112,101]
abbrev o_columns:List UInt8:=[99,111,108,117,109,110,115]
abbrev veu:List UInt8:=[114,111,119]
abbrev qb8:List UInt8:=[100,101,114,105,118,101,100]
abbrev ybg:List UInt8:=[99,111,117,110,116,42]
abbrev jby:List UInt8:=[115,116,97,114]
abbrev va5:List UInt8:=[114,101,97,100,32,111,110,108,121]
end Go.AM.W
namespace Go.AM.Ps
open W
inductive Nd where
 |mk (op s:List UInt8) (n:Int) (l:List Nd)
def node(op:List UInt8)(l:List Nd):Nd:= .mk op [] 0 l
def named(op s:List UInt8)(l:List Nd):Nd:= .mk op s 0 l
inductive Rs (α:Type) where
 |fuel
 |wrong
 |ok (a:α) (z:Nat)
def Rs.bind{α β:Type}(r:Rs α)(f:α→Nat→Rs β):Rs β:=
 match r with
 |.fuel=> .fuel
 |.wrong=> .wrong
 |.ok a z=>f a z
theorem Rs.bind_ok{α β:Type}(a:α)(z:Nat)(f:α→Nat→Rs β):(Rs.ok a z).bind f=f a z:=rfl
theorem Rs.bind_fuel{α β:Type}(f:α→Nat→Rs β):(Rs.fuel).bind f= .fuel:=rfl
section
variable (res:List UInt8→Bool) (t:List Tk)
def sees(z:Nat)(s:List UInt8):Bool:=
 match t[z]? with
 |some x=>(x.k == 0 || x.k == 3) && x.t == s
 |none=>false
def need(s:List UInt8)(z:Nat):Rs Unit:=
 match sees t z s with
 |true=> .ok () (z+1)
 |false=> .wrong
def needs:List (List UInt8)→Nat→Rs Unit
 | [],z=> .ok () z
 |s::l,z=>(need t s z).bind fun _ z=>needs l z
def take(s:List UInt8)(l:List (List UInt8))(z:Nat):Rs Bool:=
 match sees t z s with
 |true=>(needs t l (z+1)).bind fun _ z=> .ok true z
 |false=> .ok false z
def one:List (List UInt8)→Nat→Rs (List UInt8)
 | [],z=> .ok [] z
 |s::l,z=>match sees t z s with
  |true=> .ok s (z+1)
  |false=>one l z
def isKind(k:Int)(z:Nat):Bool:=
 match t[z]? with
 |some x=>x.k == k
 |none=>false
def isName(z:Nat):Bool:=
 match t[z]? with
 |some x=>x.k == 0 && !res x.t
 |none=>false
def textAt(z:Nat):List UInt8:=match t[z]? with
 |some x=>x.t
 |none=>[]
def numAt(z:Nat):Int:=match t[z]? with
 |some x=>x.n
 |none=>0
def name(z:Nat):Rs (List UInt8):=
 match isName res t z with
 |true=> .ok (textAt t z) (z+1)
 |false=> .wrong
def number(z:Nat):Rs Int:=
 match isKind t 1 z with
 |true=> .ok (numAt t z) (z+1)
 |false=> .wrong
def opens:Nat→Nat→Nat
 | 0,_=>0
 |n+1,z=>match sees t z g_par with
  |true=>opens n (z+1)+1
  |false=>0
def vi(z:Nat):Bool:=
 decide (0<opens t t.length z) && sees t (z+opens t t.length z) zn
def within{α:Type}(part:Nat→Rs α)(z:Nat):Rs α:=
 (need t g_par z).bind fun _ z=>(part z).bind fun x z=>(need t g_rap z).bind fun _ z=> .ok x z
def listMore{α:Type}(part:Nat→Rs α):Nat→List α→Nat→Rs (List α)
 | 0,_,_=> .fuel
 |n+1,acc,z=>match sees t z g_comma with
  |true=>(part (z+1)).bind fun x z=>listMore part n (acc++[x]) z
  |false=> .ok acc z
def vf{α:Type}(n:Nat)(part:Nat→Rs α)(z:Nat):Rs (List α):=
 (part z).bind fun x z=>listMore t part n [x] z
def jh(part:Nat→Rs Nd)(words:List (List UInt8)):Nat→Nd→Nat→Rs Nd
 | 0,_,_=> .fuel
 |n+1,a,z=>(one t words z).bind fun op z=>match op == [] with
  |true=> .ok a z
  |false=>(take t vaj [] z).bind fun all z=>(part z).bind fun b z=>jh part words n (.mk op [] (match all with|true=>1|false=>0) [a,b]) z
def vn(n:Nat)(part:Nat→Rs Nd)(words:List (List UInt8))(z:Nat):Rs Nd:=
 (part z).bind fun a z=>jh t part words n a z
def aName(z:Nat):Rs Nd:=(name res t z).bind fun s z=> .ok (named xbg s []) z
def names(n:Nat)(z:Nat):Rs (List Nd):=within t (vf t n (aName res t)) z
def turned(no:Bool)(a:Nd):Nd:=match no with
 |true=>node qah [a]
 |false=>a
def column(z:Nat):Rs Nd:=
 (name res t z).bind fun s z=>(take t xcm [] z).bind fun dot z=>match dot with
   |true=>(name res t z).bind fun c z=> .ok (named jd5 c [named k_of s []]) z
   |false=> .ok (named jd5 s []) z
def vd(s:List UInt8):Int:=
 match s == k_or,s == xaj,s == xac || s == yj || s == xas,s == g_star || s == vp with
 |true,_,_,_=>1
 |_,true,_,_=>2
 |_,_,true,_=>5
 |_,_,_,true=>6
 |_,_,_,_=>0
def typed(z:Nat):Rs Nd:=
 (one t [qaf,jac,xdq,zav,xal,jal,yaf,qal] z).bind fun s z=>
   match s == [],s == xdq,s == jal || s == yaf,s == qal with
   |true,_,_,_=> .wrong
   |_,true,_,_=> .ok (.mk vaf jac 0 []) z
   |_,_,true,_=>match sees t z g_par with
    |true=>(within t (number t) z).bind fun n z=> .ok (.mk vaf jal n []) z
    |false=> .ok (.mk vaf jal 1 []) z
   |_,_,_,true=>(within t (number t) z).bind fun n z=> .ok (.mk vaf s n []) z
   |_,_,_,_=> .ok (.mk vaf s 0 []) z
def alias(s:List UInt8)(z:Nat):Rs (List UInt8):=
 (take t k_as [] z).bind fun q z=>match q || isName res t z with
   |true=>name res t z
   |false=> .ok s z
def optPart(w:List UInt8)(part:Nat→Rs Nd)(z:Nat):Rs (List Nd):=
 (take t w [] z).bind fun b z=>match b with
   |true=>(part z).bind fun e z=> .ok [e] z
   |false=> .ok [] z
def optGroup(n:Nat)(z:Nat):Rs (List Nd):=
 (take t k_group [k_by] z).bind fun b z=>match b with
   |true=>vf t n (column res t) z
   |false=> .ok [] z
def qd(ex:Nat→Rs Nd):Nat→Option Nd→Bool→List Nd→Nat→Rs (List Nd)
 | 0,_,_,_,_=> .fuel
 |n+1,of,fst,l,z=>match fst || sees t z k_when with
  |false=> .ok l z
  |true=>(need t k_when z).bind fun _ z=>(ex z).bind fun c z=>(need t xb9 z).bind fun _ z=>(ex z).bind fun e z=>
   qd ex n of false (l++[node k_when [match of with|some o=>node g_eq [o,c]|none=>c,e]]) z
def vu(ex:Nat→Rs Nd)(l:List Nd)(z:Nat):Rs Nd:=
 (take t vb9 [] z).bind fun el z=>match el with
   |true=>(ex z).bind fun e z=>(need t zc6 z).bind fun _ z=> .ok (node xy (l++[e])) z
   |false=>(need t zc6 z).bind fun _ z=> .ok (node xy (l++[node jy []])) z
def yg(jn ex:Nat→Rs Nd):Nat→Nd→Nat→Rs Nd
 | 0,_,_=> .fuel
 |n+1,a,z=>(one t [k_cross,k_inner,k_left,k_right,k_full,zw] z).bind fun op z=>match op == [] with
  |true=> .ok a z
  |false=>match op == k_cross with
   |true=>(need t zw z).bind fun _ z=>(jn z).bind fun b z=>yg jn ex n (node op [a,b]) z
   |false=>match op == zw with
    |true=>(jn z).bind fun b z=>(need t k_on z).bind fun _ z=>(ex z).bind fun e z=>yg jn ex n (node k_inner [a,b,e]) z
    |false=>match op == k_inner with
     |true=>(need t zw z).bind fun _ z=>(jn z).bind fun b z=>(need t k_on z).bind fun _ z=>(ex z).bind fun e z=>yg jn ex n (node op [a,b,e]) z
     |false=>(take t k_outer [] z).bind fun _ z=>(need t zw z).bind fun _ z=>(jn z).bind fun b z=>(need t k_on z).bind fun _ z=>(ex z).bind fun e z=>yg jn ex n (node op [a,b,e]) z
mutual
def expr:Nat→Nat→Rs Nd
 | 0,_=> .fuel
 |n+1,z=>binds n 1 z
def binds:Nat→Int→Nat→Rs Nd
 | 0,_,_=> .fuel
 |n+1,least,z=>(first n least z).bind fun a z=>bindsMore n least a z
def bindsMore:Nat→Int→Nd→Nat→Rs Nd
 | 0,_,_,_=> .fuel
 |n+1,least,a,z=>match t[z]? with
  |none=> .ok a z
  |some x=>match x.k != 2 && x.k != 1 with
   |false=> .ok a z
   |true=>match decide (vd x.t<least) || vd x.t == 0 || (decide (least≤4) && decide (5≤vd x.t)) with
    |true=> .ok a z
    |false=>(binds n (vd x.t+1) (z+1)).bind fun b z=>bindsMore n least (node x.t [a,b]) z
def first:Nat→Int→Nat→Rs Nd
 | 0,_,_=> .fuel
 |n+1,least,z=>match decide (least≤3) && sees t z qah with
  |true=>(first n 3 (z+1)).bind fun a z=> .ok (node qah [a]) z
  |false=>match decide (least≤4) with
   |true=>test n z
   |false=>match sees t z yj with
    |true=>(first n 7 (z+1)).bind fun a z=> .ok (node yeu [a]) z
    |false=>primary n z
def test:Nat→Nat→Rs Nd
 | 0,_=> .fuel
 |n+1,z=>(binds n 5 z).bind fun a z=>(one t [g_eq,g_ne,g_le,g_ge,g_lt,g_gt] z).bind fun op z=>match op == [] with
  |false=>(one t [vaj,ybn,vbs] z).bind fun q z=>match q == vaj,q == ybn || q == vbs with
   |true,_=>(within t (body n) z).bind fun b z=> .ok (named vaj op [a,b]) z
   |_,true=>(within t (body n) z).bind fun b z=> .ok (named ybn op [a,b]) z
   |_,_=>(binds n 5 z).bind fun b z=> .ok (node op [a,b]) z
  |true=>(take t k_is [] z).bind fun is z=>match is with
   |true=>(take t qah [] z).bind fun no z=>(one t [jy,qaw,jaj,zal] z).bind fun s z=>match s == [] with
    |true=> .wrong
    |false=> .ok (turned no (named k_is s [a])) z
   |false=>(take t qah [] z).bind fun no z=>(take t yal [] z).bind fun bt z=>match bt with
    |true=>(binds n 5 z).bind fun low z=>(need t xaj z).bind fun _ z=>(binds n 5 z).bind fun b z=> .ok (turned no (node yal [a,low,b])) z
    |false=>(take t ybs [] z).bind fun lk z=>match lk with
     |true=>(binds n 5 z).bind fun b z=> .ok (turned no (node ybs [a,b])) z
     |false=>(take t k_in [] z).bind fun i z=>match i with
      |true=>match vi t z with
       |true=>(within t (body n) z).bind fun b z=> .ok (turned no (named k_in jbg [a,b])) z
       |false=>(within t (exprs n) z).bind fun l z=> .ok (turned no (node k_in (a::l))) z
      |false=>match no with
       |true=> .wrong
       |false=> .ok a z
def exprs:Nat→Nat→Rs (List Nd)
 | 0,_=> .fuel
 |n+1,z=>vf t n (expr n) z
def primary:Nat→Nat→Rs Nd
 | 0,_=> .fuel
 |n+1,z=>match isKind t 1 z with
  |true=>(number t z).bind fun k z=> .ok (.mk qdl [] k []) z
  |false=>match isKind t 2 z with
   |true=> .ok (named jee (textAt t z) []) (z+1)
   |false=>match vi t z with
    |true=>(within t (body n) z).bind fun b z=> .ok (node qcs [b]) z
    |false=>match sees t z g_par with
     |true=>within t (expr n) z
     |false=>(one t [qaw,jaj,jy,qav,xy,qa2,zaf,zae,k_count,jcl,vcl,ycl] z).bind fun op z=>
      match op == qaw with
      |true=> .ok (.mk zcs [] 1 []) z
      |false=>match op == jaj with
       |true=> .ok (node zcs []) z
       |false=>match op == jy with
        |true=> .ok (node jy []) z
        |false=>match op == qav with
         |true=>(within t (body n) z).bind fun b z=> .ok (node qav [b]) z
         |false=>match op == xy with
          |true=>cases n z
          |false=>match op == qa2 with
           |true=>within t (primCast n) z
           |false=>match op == zaf with
            |true=>(within t (exprs n) z).bind fun l z=> .ok (node zaf l) z
            |false=>match op == zae with
             |true=>within t (primNullif n) z
             |false=>match op == k_count || op == jcl || op == vcl || op == ycl with
              |true=>within t (primTotal n op) z
              |false=>column res t z
def primCast:Nat→Nat→Rs Nd
 | 0,_=> .fuel
 |n+1,z=>(expr n z).bind fun e z=>(need t k_as z).bind fun _ z=>(typed t z).bind fun ty z=> .ok (node qa2 [ty,e]) z
def primNullif:Nat→Nat→Rs Nd
 | 0,_=> .fuel
 |n+1,z=>(expr n z).bind fun a z=>(need t g_comma z).bind fun _ z=>(expr n z).bind fun b z=> .ok (node zae [a,b]) z
def primTotal:Nat→List UInt8→Nat→Rs Nd
 | 0,_,_=> .fuel
 |n+1,op,z=>match op == k_count && sees t z g_star with
  |true=> .ok (node ybg []) (z+1)
  |false=>(one t [vaj,jp] z).bind fun q z=>(expr n z).bind fun e z=> .ok (.mk op [] (match q == jp with|true=>1|false=>0) [e]) z
def cases:Nat→Nat→Rs Nd
 | 0,_=> .fuel
 |n+1,z=>match sees t z k_when with
  |true=>(qd t (expr n) n none true [] z).bind fun l z=>vu t (expr n) l z
  |false=>(expr n z).bind fun e z=>(qd t (expr n) n (some e) true [] z).bind fun l z=>vu t (expr n) l z
def body:Nat→Nat→Rs Nd
 | 0,_=> .fuel
 |n+1,z=>vn t n (term n) [jj,ji] z
def term:Nat→Nat→Rs Nd
 | 0,_=> .fuel
 |n+1,z=>vn t n (simple n) [ye] z
def simple:Nat→Nat→Rs Nd
 | 0,_=> .fuel
 |n+1,z=>match sees t z g_par with
  |true=>within t (body n) z
  |false=>(need t zn z).bind fun _ z=>(one t [vaj,jp] z).bind fun q z=>(vf t n (item n) z).bind fun items z=>(need t k_from z).bind fun _ z=>
   (vf t n (table n) z).bind fun from_ z=>(optPart t k_where (expr n) z).bind fun wh z=>(optGroup res t n z).bind fun gr z=>(optPart t k_having (expr n) z).bind fun hv z=>
     .ok (.mk zn [] (match q == jp with|true=>1|false=>0) [node o_items items,node k_from from_,node k_where wh,node k_group gr,node k_having hv]) z
def item:Nat→Nat→Rs Nd
 | 0,_=> .fuel
 |n+1,z=>(take t g_star [] z).bind fun st z=>match st with
  |true=> .ok (node jby []) z
  |false=>match isName res t z && sees t (z+1) xcm && sees t (z+2) g_star with
   |true=>(name res t z).bind fun s z=> .ok (named jby s []) (z+2)
   |false=>(expr n z).bind fun e z=>(alias res t [] z).bind fun s z=> .ok (named xee s [e]) z
def table:Nat→Nat→Rs Nd
 | 0,_=> .fuel
 |n+1,z=>(joined n z).bind fun a z=>yg t (joined n) (expr n) n a z
def joined:Nat→Nat→Rs Nd
 | 0,_=> .fuel
 |n+1,z=>match vi t z with
  |true=>(within t (body n) z).bind fun b z=>(take t k_as [] z).bind fun _ z=>(name res t z).bind fun s z=> .ok (named qb8 s [b]) z
  |false=>match sees t z g_par with
   |true=>within t (table n) z
   |false=>(name res t z).bind fun s z=>(alias res t s z).bind fun al z=> .ok (named qa6 s [named k_as al []]) z
end
end
end Go.AM.Ps
namespace Go.AM.Ps
open W
abbrev zd5:List UInt8:=[107,101,121]
abbrev vbg:List UInt8:=[105,115,111,108,97,116,105,111,110]
section
variable (res:List UInt8→Bool) (t:List Tk) (n:Nat)
def keyP(z:Nat):Rs Nd:=
 (match isKind t 1 z with
   |true=>(number t z).bind fun k z=> .ok (Nd.mk qdl [] k []) z
   |false=>column res t z).bind fun e z=>(one t [zbz,jbi] z).bind fun s z=>match s == [] with
    |true=> .ok (named zd5 zbz [e]) z
    |false=> .ok (named zd5 s [e]) z
def query(z:Nat):Rs Nd:=
 (body res t n z).bind fun b z=>(take t qbi [k_by] z).bind fun o z=>match o with
   |true=>(vf t n (keyP res t) z).bind fun l z=> .ok (node jbg [b,node qbi l]) z
   |false=> .ok (node jbg [b,node qbi []]) z
def whose(z:Nat):Rs Nd:=
 (take t k_where [] z).bind fun w z=>match w with
   |false=> .ok (node k_where []) z
   |true=>(take t ya1 [k_of] z).bind fun c z=>match c with
    |true=>(name res t z).bind fun s z=> .ok (named ya1 s []) z
    |false=>(expr res t n z).bind fun e z=> .ok (node k_where [e]) z
def setE(z:Nat):Rs Nd:=
 (name res t z).bind fun s z=>(need t g_eq z).bind fun _ z=>(expr res t n z).bind fun e z=> .ok (named k_set s [e]) z
def rowP(z:Nat):Rs Nd:=(within t (exprs res t n) z).bind fun l z=> .ok (node veu l) z
def jt(z:Nat):Rs (List Nd):=
 match sees t z g_par && !vi t z with
 |true=>names res t n z
 |false=> .ok [] z
def insertP(z:Nat):Rs Nd:=
 (name res t z).bind fun s z=>(jt res t n z).bind fun cols z=>(take t k_values [] z).bind fun v z=>match v with
   |true=>(vf t n (rowP res t n) z).bind fun l z=> .ok (named k_insert s [node o_columns cols,node k_values l]) z
   |false=>(body res t n z).bind fun b z=> .ok (named k_insert s [node o_columns cols,b]) z
def yh:Nat→List Nd→Nat→Rs (List Nd)
 | 0,_,_=> .fuel
 |m+1,l,z=>(take t qah [jy] z).bind fun a z=>match a with
  |true=>yh m (l++[node yb7 []]) z
  |false=>(take t qy [vbn] z).bind fun a z=>match a with
   |true=>yh m (l++[node qy []]) z
   |false=>(take t yx [] z).bind fun a z=>match a with
    |true=>yh m (l++[node yx []]) z
    |false=>(take t k_check [] z).bind fun a z=>match a with
     |true=>(within t (expr res t n) z).bind fun e z=>yh m (l++[node k_check [e]]) z
     |false=>(take t qw [] z).bind fun a z=>match a with
      |true=>(name res t z).bind fun s z=>yh m (l++[named qw s []]) z
      |false=> .ok l z
def element(z:Nat):Rs Nd:=
 (take t qy [vbn] z).bind fun a z=>match a with
   |true=>(names res t n z).bind fun l z=> .ok (node qy l) z
   |false=>(take t yx [] z).bind fun a z=>match a with
    |true=>(names res t n z).bind fun l z=> .ok (node yx l) z
    |false=>(take t k_check [] z).bind fun a z=>match a with
     |true=>(within t (expr res t n) z).bind fun e z=> .ok (node k_check [e]) z
     |false=>(take t va1 [vbn] z).bind fun a z=>match a with
      |true=>(names res t n z).bind fun l z=>(need t qw z).bind fun _ z=>(name res t z).bind fun s z=> .ok (named va1 s l) z
      |false=>(name res t z).bind fun s z=>(typed t z).bind fun ty z=>(yh res t n n [ty] z).bind fun l z=> .ok (named qae s l) z
def create(z:Nat):Rs Nd:=
 (take t qa6 [] z).bind fun tb z=>match tb with
   |true=>(name res t z).bind fun s z=>(within t (vf t n (element res t n)) z).bind fun l z=> .ok (named va0 s l) z
   |false=>(take t yx [] z).bind fun u z=>(need t za6 z).bind fun _ z=>(name res t z).bind fun s z=>(need t k_on z).bind fun _ z=>(name res t z).bind fun o z=>
    (names res t n z).bind fun l z=> .ok (.mk yad s (match u with|true=>1|false=>0) (named k_on o []::l)) z
def level(z:Nat):Rs Int:=
 (one t [xap,qai,zab] z).bind fun w z=>match w == xap with
   |true=>(take t jao [] z).bind fun u z=>match u with
    |true=> .ok 0 z
    |false=>(need t xbi z).bind fun _ z=> .ok 1 z
   |false=>match w == qai with
    |true=>(need t xap z).bind fun _ z=> .ok 2 z
    |false=>match w == zab with
     |true=> .ok 3 z
     |false=> .wrong
def forP(z:Nat):Rs (List UInt8):=
 (take t zbi [] z).bind fun f z=>match f with
   |false=> .ok [] z
   |true=>(one t [xap,k_update] z).bind fun w z=>match w == xap with
    |true=>(need t vct z).bind fun _ z=> .ok va5 z
    |false=>match w == k_update with
     |true=> .ok k_update z
     |false=> .wrong
def declareP(z:Nat):Rs Nd:=
 (name res t z).bind fun s z=>(take t xct [] z).bind fun sc z=>(need t yba z).bind fun _ z=>(need t zbi z).bind fun _ z=>(query res t n z).bind fun q z=>
   (forP t z).bind fun f z=> .ok (.mk k_declare s (match sc with|true=>1|false=>0) [q,named zbi f []]) z
def way(z:Nat):Rs Nd:=
 (one t [k_next,k_prior,k_first,k_last,k_absolute,k_relative] z).bind fun op z=>match op == [] with
   |true=> .ok (node k_next []) z
   |false=>match op == k_absolute || op == k_relative with
    |true=>(take t yj [] z).bind fun m z=>(number t z).bind fun k z=> .ok (.mk op [] (match m with|true=> -k|false=>k) []) z
    |false=> .ok (node op []) z
def updateP(z:Nat):Rs Nd:=
 (name res t z).bind fun s z=>(need t k_set z).bind fun _ z=>(vf t n (setE res t n) z).bind fun l z=>(whose res t n z).bind fun w z=> .ok (named k_update s (l++[w])) z
def statement(z:Nat):Rs Nd:=
 match sees t z g_par || sees t z zn with
 |true=>query res t n z
 |false=>(take t k_create [] z).bind fun a z=>match a with
  |true=>create res t n z
  |false=>(take t k_drop [] z).bind fun a z=>match a with
   |true=>(take t qa6 [] z).bind fun tb z=>match tb with
    |true=>(name res t z).bind fun s z=> .ok (named xax s []) z
    |false=>(need t za6 z).bind fun _ z=>(name res t z).bind fun s z=> .ok (named vax s []) z
   |false=>(take t k_insert [jdq] z).bind fun a z=>match a with
    |true=>insertP res t n z
    |false=>(take t k_update [] z).bind fun a z=>match a with
     |true=>updateP res t n z
     |false=>(take t k_delete [k_from] z).bind fun a z=>match a with
      |true=>(name res t z).bind fun s z=>(whose res t n z).bind fun w z=> .ok (named k_delete s [w]) z
      |false=>(take t k_commit [] z).bind fun a z=>match a with
       |true=> .ok (node k_commit []) z
       |false=>(take t k_rollback [] z).bind fun a z=>match a with
        |true=>(take t k_to [] z).bind fun to z=>match to with
         |false=> .ok (node k_rollback []) z
         |true=>(take t k_savepoint [] z).bind fun _ z=>(name res t z).bind fun s z=> .ok (named jar s []) z
        |false=>(take t k_savepoint [] z).bind fun a z=>match a with
         |true=>(name res t z).bind fun s z=> .ok (named k_savepoint s []) z
         |false=>(take t k_release [] z).bind fun a z=>match a with
          |true=>(take t k_savepoint [] z).bind fun _ z=>(name res t z).bind fun s z=> .ok (named k_release s []) z
          |false=>(take t k_set [xa1,vaa,zdq] z).bind fun a z=>match a with
           |true=>(level t z).bind fun k z=> .ok (.mk vbg [] k []) z
           |false=>(take t k_declare [] z).bind fun a z=>match a with
            |true=>declareP res t n z
            |false=>(take t k_open [] z).bind fun a z=>match a with
             |true=>(name res t z).bind fun s z=> .ok (named k_open s []) z
             |false=>(take t k_close [] z).bind fun a z=>match a with
              |true=>(name res t z).bind fun s z=> .ok (named k_close s []) z
              |false=>(take t k_fetch [] z).bind fun a z=>match a with
               |true=>(way t z).bind fun w z=>(take t k_from [] z).bind fun _ z=>(name res t z).bind fun s z=> .ok (named k_fetch s [w]) z
               |false=> .wrong
end
end Go.AM.Ps
