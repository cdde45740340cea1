/- What the law's variables hold when it is called. -/
import Derived.Test.YteomefghofhkiaaGreatDoorRdTab
import Derived.Test.YteomefghofhkiaaGreatDoorCards
import Derived.Test.YteomefghofhkiaaGreatDoorTie
import Derived.WalkKit
import Derived.ProofKit
import Derived.OpenShut
import Derived.ShutString
import Derived.Deep.DeepWitnessRowRef
import Derived.Lib.LaidTab
import Derived.LaidMore
import Derived.Stop.LaidErr
set_option linter.unusedVariables false
set_option maxRecDepth 100000
namespace Go.Proofs.YteomefghofhkiaaGreatDoor
open Go.ChangeShapes Go.WideShapes Go.ChangeAt Go.RowKit
open Go.ChangeMaps (open_string shut_string)
theorem own:ownKnob Tryz.prog.godebug=none:=by kernel_rfl
theorem vee:Tryz.prog.globalNamed "stile/lex.signs" =some 0:=by kernel_rfl
theorem yee:Tryz.prog.globalNamed "strconv.ErrRange" =some 3:=by kernel_rfl
theorem qep:(Tryz.prog.globals[0]?).map (·.type)=some 91:=by kernel_rfl
theorem zep:(Tryz.prog.globals[3]?).map (·.type)=some 86:=by kernel_rfl
theorem star: "*" ++ "errors.errorString" = "*errors.errorString" :=by decide
theorem xes(u:TypeId)(h:Tryz.prog.typeName? 3 u=some "*errors.errorString"):u=126:=
 typeName_ptr_named (nm:= "errors.errorString") (by rw[star];kernel_rfl) (by kernel_rfl) (by decide) u (by rw[star];exact h)
abbrev zaq:List (String × DataW Unit):=Rows.parseReadsRow.laid
theorem qd3{W:World}(h:laidMetH Tryz.prog zaq W):∃ x,W.cell? ⟨3,0,none⟩=some (.iface 126 x):=by
 have h':laidMet Tryz.prog zaq W:=h
 obtain⟨a,s,hv,_⟩:=laid_sentinel h'.tail.tail.tail yee zep Tryz.underlying86 xes Tryz.underlying126 Tryz.underlying128 rfl rfl Tryz.underlying9 (by kernel_rfl) (by kernel_rfl)
 have:=World.var?_cell yee hv 0
 exact⟨_,by simpa using this⟩
theorem qd1{W:World}(h:laidMetH Tryz.prog zaq W):∀ i,i<16→∃ s:ByteArray,W.cell? ⟨0,i,none⟩=some (.string s)∧s.data.toList=AM.Pr.signs.getD i []:=by
 have h':laidMet Tryz.prog zaq W:=h
 obtain⟨ps,⟨g,t,cs,fuel,p,q,hg,ht,hvar,hd,_,_⟩,_⟩:=h'.tail.tail.tail.tail.tail
 obtain rfl:=Option.some.inj (vee.symm.trans hg)
 obtain rfl:=Option.some.inj (qep.symm.trans ht)
 obtain⟨xs,m,rfl,hx,hlen,hn,hel⟩:=DataW.trod_array (show Tryz.prog.underlying 91=some (.array 16 9) by kernel_rfl) hd
 have c9:Tryz.prog.cellsOf 9=1:=by kernel_rfl
 have hx':xs.map (·.1)=AM.Pr.signs.map fun b=>(DataW.lit (.string b):DataW Unit):=by
  have h1:(DataW.agg (AM.Pr.signs.map fun b=> .lit (.string b)):DataW Unit)= .agg (xs.map (·.1)):=congrArg Prod.fst hx
  injection h1 with h1
  exact h1.symm
 intro i hi
 have h0:=hel i hi
 rw[c9,Nat.mul_one] at h0
 have hi':i<xs.length:=by omega
 rw[List.getElem?_eq_getElem hi'] at h0
 obtain⟨s,hcs,hs,_⟩:=DataW.trod_string (show Tryz.prog.underlying 9=some .string by kernel_rfl) h0
 refine⟨s,?_,?_⟩
 ·have:=World.var?_cell vee hvar i
  rw[this]
  have h1:=congrArg (·[0]?) hcs
  simpa[List.getElem?_take,List.getElem?_drop] using h1
 ·have h1:(xs.map (·.1))[i]? =some (DataW.lit (.string s.data.toList)):=by
   rw[List.getElem?_map,List.getElem?_eq_getElem hi',hs];rfl
  rw[hx'] at h1
  simp only[List.getElem?_map,Option.map_eq_some_iff,DataW.lit.injEq,Lit.string.injEq] at h1
  obtain⟨b,hb,he⟩:=h1
  rw[List.getD_eq_getElem?_getD,hb,← he]
  rfl
theorem zem{W:World}(h:laidMetH Tryz.prog zaq W)(hM:∃ m,W.cell? ⟨1,0,none⟩=some (.int .i64 m)):AM.GlobOk (AM.Pr.tab AM.real) (AM.g0 W) W:=by
 intro gl t e hg
 have lt_of:∀(b off:Nat) (v:Value),W.cell? ⟨b,off,none⟩=some v→b<W.heap.size:=fun b off v hc=>by
  rcases Nat.lt_or_ge b W.heap.size with h'|h'
  ·exact h'
  ·simp[World.cell?,Array.getElem?_eq_none h'] at hc
 match gl,hg with
 | 0,hg=>
  have hS:=qd1 h
  have hex:∃ ss:Nat→ByteArray,∀ i,i<16→W.cell? ⟨0,i,none⟩=some (.string (ss i))∧(ss i).data.toList=AM.Pr.signs.getD i []:=
   ⟨fun i=>if hi:i<16 then Classical.choose (hS i hi) else default,fun i hi=>by
     simp only[dif_pos hi];exact Classical.choose_spec (hS i hi)⟩
  obtain⟨ss,hss⟩:=hex
  have hg':(91,AM.AV.agg (AM.Pr.signs.map AM.AV.str))=(t,e):=Option.some.inj hg
  obtain⟨rfl,rfl⟩:=Prod.mk.inj hg'
  have hcells:(AM.AV.agg (AM.Pr.signs.map AM.AV.str)).cells=AM.Pr.signs.map AM.AV.str:=rfl
  have hlen:(AM.Pr.signs.map AM.AV.str).length=16:=rfl
  have:=AM.Rep.eptr (T:=AM.Pr.tab AM.real) (w:=W) (AM.g0 W) 91 (.agg (AM.Pr.signs.map AM.AV.str)) 0 0 0 (fun j=> .string (ss j)) (.inl ⟨rfl,_,rfl,rfl⟩)
   (fun j hj=>by rw[hcells,hlen] at hj;rw[Nat.zero_add];exact(hss j hj).1) (fun j hj=>rfl) (fun j hj=>by
     show 0<W.heap.size
     exact lt_of 0 0 _ (hss 0 (by decide)).1) (fun j hj=>by
     rw[hcells,hlen] at hj
     rw[hcells]
     have hn:AM.nth (AM.Pr.signs.map AM.AV.str) j= .str ((ss j).data.toList):=by
      rw[(hss j hj).2,AM.nth_eq]
      simp[List.getD_eq_getElem?_getD,show j<AM.Pr.signs.length from hj]
     rw[hn]
     exact AM.rep_string _ _ _ (ss j))
  exact this
 | 1,hg=>
  obtain⟨m,hm⟩:=hM
  have hg':(3,AM.AV.anyInt .i64)=(t,e):=Option.some.inj hg
  obtain⟨rfl,rfl⟩:=Prod.mk.inj hg'
  exact AM.Rep.eptr (T:=AM.Pr.tab AM.real) (w:=W) (AM.g0 W) 3 (.anyInt .i64) 0 1 0 (fun _=> .int .i64 m) (.inr ⟨rfl,rfl,rfl⟩)
   (fun j hj=>by have:j=0:=by simpa[AM.AV.cells] using hj
                 subst this;exact hm) (fun j hj=>rfl) (fun j hj=>lt_of 1 0 _ hm) (fun j hj=>by
     have:j=0:=by simpa[AM.AV.cells] using hj
     subst this;exact .anyInt ..)
 | 3,hg=>
  obtain⟨x,hx⟩:=qd3 h
  have hg':(86,AM.AV.iface 126 .undef)=(t,e):=Option.some.inj hg
  obtain⟨rfl,rfl⟩:=Prod.mk.inj hg'
  exact AM.Rep.eptr (T:=AM.Pr.tab AM.real) (w:=W) (AM.g0 W) 86 (.iface 126 .undef) 0 3 0 (fun _=> .iface 126 x) (.inr ⟨rfl,rfl,rfl⟩)
   (fun j hj=>by have:j=0:=by simpa[AM.AV.cells] using hj
                 subst this;exact hx) (fun j hj=>rfl) (fun j hj=>lt_of 3 0 _ hx) (fun j hj=>by
     have:j=0:=by simpa[AM.AV.cells] using hj
     subst this;exact .iface _ _ _ _ (.undef _ _))
 | 2,hg=>cases hg
 |n+4,hg=>cases hg
noncomputable def va4(os:Os):World:=World.doorLaid Tryz.prog 400 os
theorem yd7(os:Os)(args:Array Value):laidMet Tryz.prog zaq ((va4 os).forCall (fun _ _=>0) ⟨#[],args,[]⟩).memory:=
 laidMet_of_run' 8 (by kernel_rfl) (by kernel_rfl)
end Go.Proofs.YteomefghofhkiaaGreatDoor
