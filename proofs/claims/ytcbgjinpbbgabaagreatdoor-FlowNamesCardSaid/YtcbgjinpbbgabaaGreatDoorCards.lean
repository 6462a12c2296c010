/-
  DERIVED. GIVEN WITH THE SEED: THE CARDS: each row of YtcbgjinpbbgabaaGreatDoorRows.lean that lists a variable, with what it lists TIED to the program's text (the seventh form; the later family's looks); each row that meets fmt, with fmt's text TOLD by the authors' own Lean function (tested against real Go, not proved from fmt's source: count such statements apart). THE CARD IS WHAT COUNTS. Prove the row's statement (the work); the ties are given (YtcbgjinpbbgabaaGreatDoorTie.lean); close each card by the builder's one call (the guide's Derived/Test/ToyasCard.lean, 'card_holds'). Laid BY PROGRAM, IN A SANDBOX (cutbox-door.mjs). By AI agents, Wed Nov 11 2026. No macro, syntax, notation, axiom, sorry.
-/
import Derived.Test.YtcbgjinpbbgabaaGreatDoorRows
import GoSem.ClaimSeven
namespace Go.Proofs.YtcbgjinpbbgabaaGreatDoor
namespace Rows

/-- THE TIED CARD OF 'quadratlaw07.FolderNames'. -/
def folderNamesCard : Claim7 := { stood := { row := folderNamesRow, standIns := [], harness := (true, "44a80d86d2f4233e18775e58f2cf55dd109d2b22798a8e730923b5ce466b99fd"), looks := false }, kinds := [], alts := [], laidByText := true, laidKinds := [.data, .pinned], laidTests := true, laidLooks := .later }
def FolderNamesCardSaid : Prop := Claim7.holds Tryz.pinned (.plain (OpenSpec.ofChange folderNamesSpec)) folderNamesCard

/-- THE TIED CARD OF 'quadratlaw21.FlowNames'. -/
def flowNamesCard : Claim7 := { stood := { row := flowNamesRow, standIns := [], harness := (true, "44a80d86d2f4233e18775e58f2cf55dd109d2b22798a8e730923b5ce466b99fd"), looks := false }, kinds := [], alts := [], laidByText := true, laidKinds := [.data, .pinned], laidTests := true, laidLooks := .later }
def FlowNamesCardSaid : Prop := Claim7.holds Tryz.pinned (.plain (OpenSpec.ofChange flowNamesSpec)) flowNamesCard

/-- THE SECOND FORM's CARD OF 'quadratlaw07.FolderNames'. -/
def folderNamesUptoCard : Claim7 := { stood := { row := folderNamesUptoRow, standIns := [], harness := (true, "44a80d86d2f4233e18775e58f2cf55dd109d2b22798a8e730923b5ce466b99fd"), looks := false }, kinds := [], alts := [], laidByText := true, laidKinds := [.data, .pinned], laidTests := true, laidLooks := .later }
def FolderNamesUptoCardSaid : Prop := Claim7.holds Tryz.pinned (.plain (OpenSpec.upto folderNamesSpec)) folderNamesUptoCard

/-- THE SECOND FORM's CARD OF 'quadratlaw21.FlowNames'. -/
def flowNamesUptoCard : Claim7 := { stood := { row := flowNamesUptoRow, standIns := [], harness := (true, "44a80d86d2f4233e18775e58f2cf55dd109d2b22798a8e730923b5ce466b99fd"), looks := false }, kinds := [], alts := [], laidByText := true, laidKinds := [.data, .pinned], laidTests := true, laidLooks := .later }
def FlowNamesUptoCardSaid : Prop := Claim7.holds Tryz.pinned (.plain (OpenSpec.upto flowNamesSpec)) flowNamesUptoCard
end Rows
end Go.Proofs.YtcbgjinpbbgabaaGreatDoor
