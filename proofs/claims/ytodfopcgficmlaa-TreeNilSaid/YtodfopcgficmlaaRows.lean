/-
  No cell of these rows narrows 'for every input' (looked for: loops, veiled, ifaces, maps, wideKeys, modest, calm, conditions, laid).
  DERIVED. THE GIVEN ROWS OF THIS SEAT. 5 by the template 'for every input the law returns true; each argument reads behind the call as it read before'; 0 by the template 'total and deterministic' (their statements: YtodfopcgficmlaaTotals.lean).
  GIVEN WITH THE SEED: the statements are not yours to turn. If you find one false, say at which input.
  Laid BY PROGRAM, IN A SANDBOX (cutbox-rows.mjs): the forced cells as the released guide's own fill.sh prints them over the translation 639d923389130928… (all of the seat's roots in one cut). By AI agents, Wed Nov 11 2026. No macro, syntax, notation, axiom, sorry.
-/
import Derived.Test.YtodfopcgficmlaaChecked
import GoSem.Claim
import GoSem.ClaimJoined
import GoSem.ClaimMapViews
import Derived.JoinedTies
import Derived.KernelRfl
namespace Go.Proofs.Ytodfopcgficmlaa
/- THE CELL 'sum', in the pinned program and in every row, IS THE sha256 OF THE DUMP (.gsa) THAT YtodfopcgficmlaaProg.lean LOADS. Nothing in Lean hashes anything: it is a label: what it is worth is what the hold of that sum in a sandbox is worth. -/
noncomputable def Try.pinned : Pinned := { name := "ytodfopcgficmlaa", sum := "639d9233891309282b0c9c6caeec0e033b62e2ea70defe6ed20013e400114b66", checked := Try.checked }
namespace Rows
def none {H : Type} : Left H := { results := [], args := [] }

/-- 'stilelaw09.TreeOrder': WHATEVER THE INPUT: true; the input reads as it did. -/
def treeOrderSpec : ChangeSpec := { name := "treeOrder", fn := fun _ => fun
  | [d1, d2] => { results := [.lit (.bool true)], args := [d1, d2] }
  | _ => none }
def treeOrderRow : OpenClaim := { program := "ytodfopcgficmlaa", sum := "639d9233891309282b0c9c6caeec0e033b62e2ea70defe6ed20013e400114b66", func := "stile/stilelaw09.TreeOrder", spec := "treeOrder", inPlace := ["slices.overlaps[stile/btree.entry]", "slices.overlaps[string]", "slices.overlaps[*stile/btree.node]"], unfollowed := true, recurses := true, apart := false }
def TreeOrderSaid : Prop := treeOrderRow.holds Try.pinned (OpenSpec.ofChange treeOrderSpec)

/-- ITS FALSE NEIGHBOUR: 'it returns false'. Refute it at one input. -/
def treeOrderWrong : ChangeSpec := { name := "treeOrder", fn := fun _ => fun
  | [d1, d2] => { results := [.lit (.bool false)], args := [d1, d2] }
  | _ => none }
def TreeOrderWrongFalsely : Prop := treeOrderRow.holds Try.pinned (OpenSpec.ofChange treeOrderWrong)

/-- 'stilelaw09.TreeGhosts': WHATEVER THE INPUT: true; the input reads as it did. -/
def treeGhostsSpec : ChangeSpec := { name := "treeGhosts", fn := fun _ => fun
  | [d1, d2, d3] => { results := [.lit (.bool true)], args := [d1, d2, d3] }
  | _ => none }
def treeGhostsRow : OpenClaim := { program := "ytodfopcgficmlaa", sum := "639d9233891309282b0c9c6caeec0e033b62e2ea70defe6ed20013e400114b66", func := "stile/stilelaw09.TreeGhosts", spec := "treeGhosts", inPlace := ["slices.overlaps[stile/btree.entry]", "slices.overlaps[string]", "slices.overlaps[*stile/btree.node]"], unfollowed := true, recurses := true, apart := false }
def TreeGhostsSaid : Prop := treeGhostsRow.holds Try.pinned (OpenSpec.ofChange treeGhostsSpec)

/-- ITS FALSE NEIGHBOUR: 'it returns false'. Refute it at one input. -/
def treeGhostsWrong : ChangeSpec := { name := "treeGhosts", fn := fun _ => fun
  | [d1, d2, d3] => { results := [.lit (.bool false)], args := [d1, d2, d3] }
  | _ => none }
def TreeGhostsWrongFalsely : Prop := treeGhostsRow.holds Try.pinned (OpenSpec.ofChange treeGhostsWrong)

/-- 'stilelaw09.TreePlays': WHATEVER THE INPUT: true; the input reads as it did. -/
def treePlaysSpec : ChangeSpec := { name := "treePlays", fn := fun _ => fun
  | [d] => { results := [.lit (.bool true)], args := [d] }
  | _ => none }
def treePlaysRow : OpenClaim := { program := "ytodfopcgficmlaa", sum := "639d9233891309282b0c9c6caeec0e033b62e2ea70defe6ed20013e400114b66", func := "stile/stilelaw09.TreePlays", spec := "treePlays", inPlace := ["slices.overlaps[stile/btree.entry]", "slices.overlaps[string]", "slices.overlaps[*stile/btree.node]"], unfollowed := true, recurses := true, apart := false }
def TreePlaysSaid : Prop := treePlaysRow.holds Try.pinned (OpenSpec.ofChange treePlaysSpec)

/-- ITS FALSE NEIGHBOUR: 'it returns false'. Refute it at one input. -/
def treePlaysWrong : ChangeSpec := { name := "treePlays", fn := fun _ => fun
  | [d] => { results := [.lit (.bool false)], args := [d] }
  | _ => none }
def TreePlaysWrongFalsely : Prop := treePlaysRow.holds Try.pinned (OpenSpec.ofChange treePlaysWrong)

/-- 'stilelaw09.TreeWalks': WHATEVER THE INPUT: true; the input reads as it did. -/
def treeWalksSpec : ChangeSpec := { name := "treeWalks", fn := fun _ => fun
  | [d] => { results := [.lit (.bool true)], args := [d] }
  | _ => none }
def treeWalksRow : OpenClaim := { program := "ytodfopcgficmlaa", sum := "639d9233891309282b0c9c6caeec0e033b62e2ea70defe6ed20013e400114b66", func := "stile/stilelaw09.TreeWalks", spec := "treeWalks", inPlace := ["slices.overlaps[stile/btree.entry]", "slices.overlaps[string]", "slices.overlaps[*stile/btree.node]"], unfollowed := true, recurses := true, apart := false }
def TreeWalksSaid : Prop := treeWalksRow.holds Try.pinned (OpenSpec.ofChange treeWalksSpec)

/-- ITS FALSE NEIGHBOUR: 'it returns false'. Refute it at one input. -/
def treeWalksWrong : ChangeSpec := { name := "treeWalks", fn := fun _ => fun
  | [d] => { results := [.lit (.bool false)], args := [d] }
  | _ => none }
def TreeWalksWrongFalsely : Prop := treeWalksRow.holds Try.pinned (OpenSpec.ofChange treeWalksWrong)

/-- 'stilelaw09.TreeNil': WHATEVER THE INPUT: true; the input reads as it did. -/
def treeNilSpec : ChangeSpec := { name := "treeNil", fn := fun _ => fun
  | [d] => { results := [.lit (.bool true)], args := [d] }
  | _ => none }
def treeNilRow : OpenClaim := { program := "ytodfopcgficmlaa", sum := "639d9233891309282b0c9c6caeec0e033b62e2ea70defe6ed20013e400114b66", func := "stile/stilelaw09.TreeNil", spec := "treeNil", inPlace := ["slices.overlaps[stile/btree.entry]", "slices.overlaps[string]", "slices.overlaps[*stile/btree.node]"], unfollowed := true, recurses := true, apart := false }
def TreeNilSaid : Prop := treeNilRow.holds Try.pinned (OpenSpec.ofChange treeNilSpec)

/-- ITS FALSE NEIGHBOUR: 'it returns false'. Refute it at one input. -/
def treeNilWrong : ChangeSpec := { name := "treeNil", fn := fun _ => fun
  | [d] => { results := [.lit (.bool false)], args := [d] }
  | _ => none }
def TreeNilWrongFalsely : Prop := treeNilRow.holds Try.pinned (OpenSpec.ofChange treeNilWrong)

/- THE SECOND FORM. 'bulk': how many values and letters a reading holds, each counted each time it is reached (what is shared counts as often as it is met; a slice's spare places count too). A statement '..UptoSaid' is the law's where the arguments, and the package variables that the reading takes, are together of bulk at most 1048576: NARROWER than '..Said'. Prove '..Said' where nothing that the law and all that it calls make is longer than what came in: it says more and counts as full. Else prove '..UptoSaid'. A law counts once. -/
mutual
def uptoBulk {H : Type} : DataW H → Nat
  | .lit (.string bytes) => bytes.length + 1
  | .lit _ => 1
  | .nil => 1
  | .ptr d => uptoBulk d + 1
  | .slice elems spare => uptoBulkAll elems + uptoBulkAll spare + 1
  | .agg parts => uptoBulkAll parts + 1
  | .iface _ d => uptoBulk d + 1
  | .map entries => uptoBulkEntries entries + 1
  | .held _ => 1
def uptoBulkAll {H : Type} : List (DataW H) → Nat
  | [] => 0
  | d :: r => uptoBulk d + uptoBulkAll r
def uptoBulkEntries {H : Type} : List (Lit × DataW H) → Nat
  | [] => 0
  | x :: r => uptoBulkEntry x + uptoBulkEntries r
def uptoBulkEntry {H : Type} : Lit × DataW H → Nat
  | (.string bytes, d) => bytes.length + uptoBulk d + 1
  | (_, d) => uptoBulk d + 1
 end
def uptoSmall : (H : Type) → List (DataW H) → Bool := fun _ ds => decide (uptoBulkAll ds ≤ 1048576)
def OpenSpec.upto (s : _root_.Go.ChangeSpec) : _root_.Go.OpenSpec := { _root_.Go.OpenSpec.ofChange s with cond := some uptoSmall }

/-- 'stilelaw09.TreeOrder', WHERE WHAT IT READS IS OF BULK AT MOST 1048576: true; the input reads as it did. -/
def treeOrderUptoRow : OpenClaim := { program := "ytodfopcgficmlaa", sum := "639d9233891309282b0c9c6caeec0e033b62e2ea70defe6ed20013e400114b66", func := "stile/stilelaw09.TreeOrder", spec := "treeOrder", inPlace := ["slices.overlaps[stile/btree.entry]", "slices.overlaps[string]", "slices.overlaps[*stile/btree.node]"], unfollowed := true, recurses := true, apart := false, narrowed := true }
def TreeOrderUptoSaid : Prop := treeOrderUptoRow.holds Try.pinned (OpenSpec.upto treeOrderSpec)

/-- 'stilelaw09.TreeGhosts', WHERE WHAT IT READS IS OF BULK AT MOST 1048576: true; the input reads as it did. -/
def treeGhostsUptoRow : OpenClaim := { program := "ytodfopcgficmlaa", sum := "639d9233891309282b0c9c6caeec0e033b62e2ea70defe6ed20013e400114b66", func := "stile/stilelaw09.TreeGhosts", spec := "treeGhosts", inPlace := ["slices.overlaps[stile/btree.entry]", "slices.overlaps[string]", "slices.overlaps[*stile/btree.node]"], unfollowed := true, recurses := true, apart := false, narrowed := true }
def TreeGhostsUptoSaid : Prop := treeGhostsUptoRow.holds Try.pinned (OpenSpec.upto treeGhostsSpec)

/-- 'stilelaw09.TreePlays', WHERE WHAT IT READS IS OF BULK AT MOST 1048576: true; the input reads as it did. -/
def treePlaysUptoRow : OpenClaim := { program := "ytodfopcgficmlaa", sum := "639d9233891309282b0c9c6caeec0e033b62e2ea70defe6ed20013e400114b66", func := "stile/stilelaw09.TreePlays", spec := "treePlays", inPlace := ["slices.overlaps[stile/btree.entry]", "slices.overlaps[string]", "slices.overlaps[*stile/btree.node]"], unfollowed := true, recurses := true, apart := false, narrowed := true }
def TreePlaysUptoSaid : Prop := treePlaysUptoRow.holds Try.pinned (OpenSpec.upto treePlaysSpec)

/-- 'stilelaw09.TreeWalks', WHERE WHAT IT READS IS OF BULK AT MOST 1048576: true; the input reads as it did. -/
def treeWalksUptoRow : OpenClaim := { program := "ytodfopcgficmlaa", sum := "639d9233891309282b0c9c6caeec0e033b62e2ea70defe6ed20013e400114b66", func := "stile/stilelaw09.TreeWalks", spec := "treeWalks", inPlace := ["slices.overlaps[stile/btree.entry]", "slices.overlaps[string]", "slices.overlaps[*stile/btree.node]"], unfollowed := true, recurses := true, apart := false, narrowed := true }
def TreeWalksUptoSaid : Prop := treeWalksUptoRow.holds Try.pinned (OpenSpec.upto treeWalksSpec)

/-- 'stilelaw09.TreeNil', WHERE WHAT IT READS IS OF BULK AT MOST 1048576: true; the input reads as it did. -/
def treeNilUptoRow : OpenClaim := { program := "ytodfopcgficmlaa", sum := "639d9233891309282b0c9c6caeec0e033b62e2ea70defe6ed20013e400114b66", func := "stile/stilelaw09.TreeNil", spec := "treeNil", inPlace := ["slices.overlaps[stile/btree.entry]", "slices.overlaps[string]", "slices.overlaps[*stile/btree.node]"], unfollowed := true, recurses := true, apart := false, narrowed := true }
def TreeNilUptoSaid : Prop := treeNilUptoRow.holds Try.pinned (OpenSpec.upto treeNilSpec)

end Rows
end Go.Proofs.Ytodfopcgficmlaa
