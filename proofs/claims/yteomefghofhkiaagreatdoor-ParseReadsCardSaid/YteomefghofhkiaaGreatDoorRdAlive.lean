/- The live question, a closed run. -/
import Derived.Test.YteomefghofhkiaaGreatDoorRdTab
set_option maxRecDepth 100000
set_option maxHeartbeats 1000000
set_option linter.unusedVariables false
namespace Go.AM
open Go.Proofs
theorem vda(S:St)(K:Out→St→Prop)(hK:K (.ret (.bool true)) S):jb Tryz.prog (Pr.tab real) 11 [] S K:=by
 have h:Pr.R.call 11 [] St.nil (fun o _=>match o with| .ret (.bool b)=>b|_=>false)=true:=by kernel_rfl
 refine jb.lift (K0:=fun o _=>o= .ret (.bool true)) rfl (jb.mono (Pr.run h) fun o S' h=>?_) (by rintro o S0 rfl;exact hK)
 split at h
 ·rw[h]
 ·cases h
end Go.AM
