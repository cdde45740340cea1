/-
  DERIVED. GIVEN WITH THE SEED: THE CARDS: each row of YteomefghofhkiaaGreatDoorRows.lean that lists a variable, with what it lists TIED to the program's text (the seventh form; the later family's looks); each row that meets fmt, with fmt's text TOLD by the authors' own Lean function (tested against real Go, not proved from fmt's source: count such statements apart). THE CARD IS WHAT COUNTS. Prove the row's statement (the work); the ties are given (YteomefghofhkiaaGreatDoorTie.lean); close each card by the builder's one call (the guide's Derived/Test/ToyasCard.lean, 'card_holds'). Laid BY PROGRAM, IN A SANDBOX (cutbox-door.mjs). By AI agents, Wed Nov 11 2026. No macro, syntax, notation, axiom, sorry.
-/
import Derived.Test.YteomefghofhkiaaGreatDoorRows
import GoSem.ClaimSeven
namespace Go.Proofs.YteomefghofhkiaaGreatDoor
namespace Rows

/-- THE TIED CARD OF 'stilelaw14.ParseReads'. -/
def parseReadsCard : Claim7 := { stood := { row := parseReadsRow, standIns := [], harness := (true, "6b0756c5bf8446c6b23ad7f9c14655d2b1e8dba5bee2ad1027397fc504ebc67a"), looks := true }, kinds := [], alts := [], laidByText := true, laidKinds := [.data, .data, .data, .sentinel, .sentinel, .data], laidTests := true, laidLooks := .later }
def ParseReadsCardSaid : Prop := Claim7.holds Tryz.pinned (.plain (OpenSpec.ofChange parseReadsSpec)) parseReadsCard

/-- THE TIED CARD OF 'stilelaw14.ParseLoose'. -/
def parseLooseCard : Claim7 := { stood := { row := parseLooseRow, standIns := [], harness := (true, "6b0756c5bf8446c6b23ad7f9c14655d2b1e8dba5bee2ad1027397fc504ebc67a"), looks := true }, kinds := [], alts := [], laidByText := true, laidKinds := [.data, .data, .data, .sentinel, .sentinel, .data], laidTests := true, laidLooks := .later }
def ParseLooseCardSaid : Prop := Claim7.holds Tryz.pinned (.plain (OpenSpec.ofChange parseLooseSpec)) parseLooseCard

/-- THE TIED CARD OF 'stilelaw14.ParseWithin'. -/
def parseWithinCard : Claim7 := { stood := { row := parseWithinRow, standIns := [], harness := (true, "6b0756c5bf8446c6b23ad7f9c14655d2b1e8dba5bee2ad1027397fc504ebc67a"), looks := true }, kinds := [], alts := [], laidByText := true, laidKinds := [.data, .data, .data, .sentinel, .sentinel, .data], laidTests := true, laidLooks := .later }
def ParseWithinCardSaid : Prop := Claim7.holds Tryz.pinned (.plain (OpenSpec.ofChange parseWithinSpec)) parseWithinCard

/-- THE TIED CARD OF 'stilelaw14.ParseJoined'. -/
def parseJoinedCard : Claim7 := { stood := { row := parseJoinedRow, standIns := [], harness := (true, "6b0756c5bf8446c6b23ad7f9c14655d2b1e8dba5bee2ad1027397fc504ebc67a"), looks := true }, kinds := [], alts := [], laidByText := true, laidKinds := [.data, .data, .data, .sentinel, .sentinel, .data], laidTests := true, laidLooks := .later }
def ParseJoinedCardSaid : Prop := Claim7.holds Tryz.pinned (.plain (OpenSpec.ofChange parseJoinedSpec)) parseJoinedCard

/-- THE TIED CARD OF 'stilelaw14.ParseNames'. -/
def parseNamesCard : Claim7 := { stood := { row := parseNamesRow, standIns := [], harness := (true, "6b0756c5bf8446c6b23ad7f9c14655d2b1e8dba5bee2ad1027397fc504ebc67a"), looks := true }, kinds := [], alts := [], laidByText := true, laidKinds := [.data, .data, .data, .sentinel, .sentinel, .data], laidTests := true, laidLooks := .later }
def ParseNamesCardSaid : Prop := Claim7.holds Tryz.pinned (.plain (OpenSpec.ofChange parseNamesSpec)) parseNamesCard

/-- THE SECOND FORM's CARD OF 'stilelaw14.ParseReads'. -/
def parseReadsUptoCard : Claim7 := { stood := { row := parseReadsUptoRow, standIns := [], harness := (true, "6b0756c5bf8446c6b23ad7f9c14655d2b1e8dba5bee2ad1027397fc504ebc67a"), looks := true }, kinds := [], alts := [], laidByText := true, laidKinds := [.data, .data, .data, .sentinel, .sentinel, .data], laidTests := true, laidLooks := .later }
def ParseReadsUptoCardSaid : Prop := Claim7.holds Tryz.pinned (.plain (OpenSpec.upto parseReadsSpec)) parseReadsUptoCard

/-- THE SECOND FORM's CARD OF 'stilelaw14.ParseLoose'. -/
def parseLooseUptoCard : Claim7 := { stood := { row := parseLooseUptoRow, standIns := [], harness := (true, "6b0756c5bf8446c6b23ad7f9c14655d2b1e8dba5bee2ad1027397fc504ebc67a"), looks := true }, kinds := [], alts := [], laidByText := true, laidKinds := [.data, .data, .data, .sentinel, .sentinel, .data], laidTests := true, laidLooks := .later }
def ParseLooseUptoCardSaid : Prop := Claim7.holds Tryz.pinned (.plain (OpenSpec.upto parseLooseSpec)) parseLooseUptoCard

/-- THE SECOND FORM's CARD OF 'stilelaw14.ParseWithin'. -/
def parseWithinUptoCard : Claim7 := { stood := { row := parseWithinUptoRow, standIns := [], harness := (true, "6b0756c5bf8446c6b23ad7f9c14655d2b1e8dba5bee2ad1027397fc504ebc67a"), looks := true }, kinds := [], alts := [], laidByText := true, laidKinds := [.data, .data, .data, .sentinel, .sentinel, .data], laidTests := true, laidLooks := .later }
def ParseWithinUptoCardSaid : Prop := Claim7.holds Tryz.pinned (.plain (OpenSpec.upto parseWithinSpec)) parseWithinUptoCard

/-- THE SECOND FORM's CARD OF 'stilelaw14.ParseJoined'. -/
def parseJoinedUptoCard : Claim7 := { stood := { row := parseJoinedUptoRow, standIns := [], harness := (true, "6b0756c5bf8446c6b23ad7f9c14655d2b1e8dba5bee2ad1027397fc504ebc67a"), looks := true }, kinds := [], alts := [], laidByText := true, laidKinds := [.data, .data, .data, .sentinel, .sentinel, .data], laidTests := true, laidLooks := .later }
def ParseJoinedUptoCardSaid : Prop := Claim7.holds Tryz.pinned (.plain (OpenSpec.upto parseJoinedSpec)) parseJoinedUptoCard

/-- THE SECOND FORM's CARD OF 'stilelaw14.ParseNames'. -/
def parseNamesUptoCard : Claim7 := { stood := { row := parseNamesUptoRow, standIns := [], harness := (true, "6b0756c5bf8446c6b23ad7f9c14655d2b1e8dba5bee2ad1027397fc504ebc67a"), looks := true }, kinds := [], alts := [], laidByText := true, laidKinds := [.data, .data, .data, .sentinel, .sentinel, .data], laidTests := true, laidLooks := .later }
def ParseNamesUptoCardSaid : Prop := Claim7.holds Tryz.pinned (.plain (OpenSpec.upto parseNamesSpec)) parseNamesUptoCard
end Rows
end Go.Proofs.YteomefghofhkiaaGreatDoor
