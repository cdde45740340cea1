/- ParseReads: the statement and its card, for every text up to the form's own reach. -/
import Derived.Test.YteomefghofhkiaaGreatDoorRfPn
import Derived.Test.YteomefghofhkiaaGreatDoorRdFrame
import Derived.SizedLaws
set_option linter.unusedVariables false
set_option maxRecDepth 100000
namespace Go.Proofs.YteomefghofhkiaaGreatDoor
open Go.ChangeShapes Go.WideShapes Go.ChangeAt Go.RowKit
open Go.ChangeMaps (open_string shut_string)
theorem vem:AM.Enters Tryz.prog 3:=AM.enters_of Tryz.func3 (by kernel_rfl) (by kernel_rfl)
theorem xc2(a0:ByteArray)(h0:a0.data.toList.length≤140737488355328)(W:World)(hL:laidMetH Tryz.prog zaq W)(hM:∃ m,W.cell? ⟨1,0,none⟩=some (.int .i64 m)) :
 Calls Tryz.prog 3 #[.string a0] W fun e w'=>e= .returned (.bool true)∧Below W.heap.size W w':=
 AM.law_true (vs:=[.string a0]) (AM.Rf.reads_law a0.data.toList) vem (zem hL hM) (AM.args_cons (AM.rep_string _ _ _ a0) (AM.args_nil _ _ _))
theorem zci{H:Type}{s:ByteArray}(h:(DataW.weightsEach Tryz.prog [9] [DataW.lit (H:=H) (.string s.data.toList)]).all (· ≤reachBytes)=true):s.data.toList.length≤140737488355328:=by
 have h0:=sized_string h (j:=0) rfl rfl
 have:reachBytes≤140737488355328:=by decide
 omega
theorem jbn(H:Type)(enc:TypeId × Value→H)(W:World)(base:Nat)(args:Array Value)(ds gs:List (DataW H))(before:List MemPlace)
 (hval:∀(j:Nat) t v,Tryz.f3.params[j]? =some t→args[j]? =some v→Value.okWide Tryz.prog W .any base t v)
 (hW:DataW.Whole enc Tryz.prog Tryz.f3.params.toList Rows.parseReadsSpec.vars false W args.toList ds gs before) (hz:(DataW.weightsEach Tryz.prog (Tryz.f3.params.toList++(OpenSpec.ofChange Rows.parseReadsSpec).bare.plain.varTypes Tryz.prog) (ds++gs)).all (· ≤reachBytes)=true) (hL:laidMetH Tryz.prog zaq W) (hS:W.ShapedOpen Tryz.prog) :
 Calls Tryz.prog 3 args W fun e W'=>∃ v,e= .returned v∧Rows.parseReadsSpec.post enc Tryz.prog Tryz.f3 false true false false W args v W':=by
 have hW':=hW
 obtain⟨p,q,hA0,hV,rfl,hfz,hnd⟩:=hW
 have hA:DataW.TrodAll enc Tryz.prog W 0 (fun _=>true) true Tryz.f3.params.toList args.toList ds p:=hA0
 rw[Tryz.params3] at hA hval
 obtain⟨v0,vs0,d0,ds0,p0,q0,hargs,rfl,rfl,h0,r0⟩:=trodAll_cons hA
 obtain⟨rfl,rfl,rfl⟩:=trodAll_nil r0
 obtain rfl:args= #[v0]:=by cases args;simp_all
 obtain⟨rfl,rfl⟩:=trodVars_none hV
 obtain⟨a0,rfl,rfl,rfl,w0⟩:=open_string Tryz.underlying9 (hval 0 9 v0 rfl rfl) h0
 clear hA0
 simp only[List.append_nil] at hW'
 have hsz:=zci hz
 refine(xc2 a0 hsz W hL (Tryz.laysM144.s1_3 W hS)).mono fun e W' ⟨he,hg⟩=>?_
 subst he
 exact⟨_,rfl,[_],[],[],[],[],[],hW',trodAll_cons_mk (shut_bool Tryz.underlying4 _) trodAll_mk0,trodAll_cons_mk (shut_string Tryz.underlying9 w0) trodAll_mk0,rfl,hg.frame _,fun h=>by cases h⟩
theorem jci(os:Os){H:Type}(enc:TypeId × Value→H):∃ places,DataW.whole enc Tryz.prog ((va4 os).forCall (fun _ _=>0) ⟨#[],#[.string ByteArray.empty],[]⟩).memory Tryz.f3.params.toList Rows.parseReadsSpec.vars false #[Value.string ByteArray.empty].toList 8=some ([.lit (.string [])],[],places):=
 ⟨[],by kernel_rfl⟩
theorem vb6(os:Os)(started:os.Started)(H:Type)(enc:TypeId × Value→H)(F:Stop.Interp) :
 ReturnsInHanded {} Tryz.checked os 3 .any ((OpenSpec.ofChange Rows.parseReadsSpec).preRow enc Tryz.prog Tryz.f3 Rows.parseReadsRow.domain false Rows.parseReadsRow.laid) (((OpenSpec.ofChange Rows.parseReadsSpec).at F).post enc Tryz.prog Tryz.f3 false true false false):=by
 obtain⟨places,hx⟩:=jci os enc
 refine returnsInHanded_of_row (C:=Tryz.checked) (s:=OpenSpec.ofChange Rows.parseReadsSpec) own started (by kernel_rfl) Tryz.func3
  (witness_row_atRef (enc:=enc) (C:=Tryz.checked) false (va4 os) #[.string ByteArray.empty] rfl (by kernel_rfl) (by kernel_rfl) (by kernel_rfl)
    (OpenSpec.preRow_of_cond 8 hx (by kernel_rfl) (fun k hk=>by cases hk) (by kernel_rfl) (yd7 os _))) ?_
 intro W base args ds gs before hval hW _ _ hz hL hS _
 exact jbn H enc W base args ds gs before hval hW hz hL hS
theorem reads_said:Rows.ParseReadsSaid:=
 OpenClaim.holds_of_cond 3 Tryz.f3 rfl rfl rfl rfl rfl rfl rfl ⟨rfl,rfl,rfl,rfl,rfl⟩ rfl rfl rfl rfl rfl (by kernel_rfl) Tryz.func3 (by kernel_rfl)
  (of_decide_eq_true (by kernel_rfl)) (by unfold Func.isWrapper;first|(rw[if_pos (by decide +kernel)];kernel_rfl)|(rw[if_neg (by decide +kernel)];exact⟨rfl,rfl⟩))
  (fun os started H enc _ F=>by rw[OpenClaim.pre_eq_preRow];exact vb6 os started H enc F)
theorem reads_plain(f:FuncId)(fn:Func)(hf:Tryz.pinned.checked.prog.funcNamed "stile/stilelaw14.ParseReads" =some f)(hfn:Tryz.pinned.checked.prog.funcs[f]? =some fn) :
 true=Tryz.pinned.checked.prog.looks []∧∀(j:Nat) t,fn.params[j]? =some t→Tryz.pinned.checked.prog.wantsStandIn t=false:=by
 obtain rfl:f=3:=Option.some.inj ((show Tryz.prog.funcNamed "stile/stilelaw14.ParseReads" =some 3 by kernel_rfl).symm.trans hf) |>.symm
 obtain rfl:fn=Tryz.f3:=(Option.some.inj (Tryz.func3.symm.trans hfn)).symm
 refine⟨by kernel_rfl,fun j t ht=>?_⟩
 rw[Tryz.params3] at ht
 obtain rfl:t=9:=by simpa using Array.mem_of_getElem? ht
 exact(show Tryz.prog.wantsStandIn 9=false by kernel_rfl)
theorem reads_card:Rows.ParseReadsCardSaid:=
 Claim7.holds_tied_plain_at .later [] _ _ _ _ reads_said (fun _ h=>by cases h) (by kernel_rfl) (fun _ h=>by cases h) parseReads_row_tie rfl ⟨rfl,rfl⟩ (by kernel_rfl) rfl reads_plain (by kernel_rfl)
#print axioms reads_card
end Go.Proofs.YteomefghofhkiaaGreatDoor
