/- The document's scanner, in plain words. -/
import Derived.Test.YteomefghofhkiaaGreatDoorWnScanB
set_option maxRecDepth 100000
set_option maxHeartbeats 2000000
set_option linter.unusedVariables false
namespace Go.AM
open Go.Proofs
def refTxt (s : List UInt8) : Nat → Nat → List UInt8 → Bool → Option (List UInt8 × Bool × Nat)
 | 0, _, _, _ => none
 | n + 1, k, b, ok => match decide (k < s.length) with
  | false => none
  | true => match s.getD k 0 == 39 with
   | true => match decide (k + 1 < s.length) && s.getD (k + 1) 0 == 39 with
    | true => refTxt s n (k + 2) (b ++ [39]) ok
    | false => some (b, ok, k)
   | false => refTxt s n (k + 1) (b ++ [s.getD k 0]) (ok && goodB (s.getD k 0))
end Go.AM
