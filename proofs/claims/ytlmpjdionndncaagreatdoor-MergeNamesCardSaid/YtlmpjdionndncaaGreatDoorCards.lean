/-
  DERIVED. GIVEN WITH THE SEED: THE CARDS: each row of YtlmpjdionndncaaGreatDoorRows.lean that lists a variable, with what it lists TIED to the program's text (the seventh form; the later family's looks); each row that meets fmt, with fmt's text TOLD by the authors' own Lean function (tested against real Go, not proved from fmt's source: count such statements apart). THE CARD IS WHAT COUNTS. Prove the row's statement (the work); the ties are given (YtlmpjdionndncaaGreatDoorTie.lean); close each card by the builder's one call (the guide's Derived/Test/ToyasCard.lean, 'card_holds'). Laid BY PROGRAM, IN A SANDBOX (cutbox-door.mjs). By AI agents, Wed Nov 11 2026. No macro, syntax, notation, axiom, sorry.
-/
import Derived.Test.YtlmpjdionndncaaGreatDoorRows
import GoSem.ClaimSeven
namespace Go.Proofs.YtlmpjdionndncaaGreatDoor
namespace Rows

/-- THE TIED CARD OF 'quadratlaw26.RunsOrder'. -/
def runsOrderCard : Claim7 := { stood := { row := runsOrderRow, standIns := [], harness := (true, "958f70530007b389710de9c1b407bb97ab38853ba0222182a722152f40baa8d1"), looks := false }, kinds := [], alts := [], laidByText := true, laidKinds := [.data, .pinned], laidTests := true, laidLooks := .later }
def RunsOrderCardSaid : Prop := Claim7.holds Tryz.pinned (.plain (OpenSpec.ofChange runsOrderSpec)) runsOrderCard

/-- THE TIED CARD OF 'quadratlaw26.RunsNames'. -/
def runsNamesCard : Claim7 := { stood := { row := runsNamesRow, standIns := [], harness := (true, "958f70530007b389710de9c1b407bb97ab38853ba0222182a722152f40baa8d1"), looks := false }, kinds := [], alts := [], laidByText := true, laidKinds := [.data, .pinned], laidTests := true, laidLooks := .later }
def RunsNamesCardSaid : Prop := Claim7.holds Tryz.pinned (.plain (OpenSpec.ofChange runsNamesSpec)) runsNamesCard

/-- THE TIED CARD OF 'quadratlaw27.MergeNames'. -/
def mergeNamesCard : Claim7 := { stood := { row := mergeNamesRow, standIns := [], harness := (true, "958f70530007b389710de9c1b407bb97ab38853ba0222182a722152f40baa8d1"), looks := false }, kinds := [], alts := [], laidByText := true, laidKinds := [.data, .pinned], laidTests := true, laidLooks := .later }
def MergeNamesCardSaid : Prop := Claim7.holds Tryz.pinned (.plain (OpenSpec.ofChange mergeNamesSpec)) mergeNamesCard

/-- THE TIED CARD OF 'quadratlaw28.SeekNames'. -/
def seekNamesCard : Claim7 := { stood := { row := seekNamesRow, standIns := [], harness := (true, "958f70530007b389710de9c1b407bb97ab38853ba0222182a722152f40baa8d1"), looks := false }, kinds := [], alts := [], laidByText := true, laidKinds := [.data, .pinned], laidTests := true, laidLooks := .later }
def SeekNamesCardSaid : Prop := Claim7.holds Tryz.pinned (.plain (OpenSpec.ofChange seekNamesSpec)) seekNamesCard

/-- THE SECOND FORM's CARD OF 'quadratlaw26.RunsOrder'. -/
def runsOrderUptoCard : Claim7 := { stood := { row := runsOrderUptoRow, standIns := [], harness := (true, "958f70530007b389710de9c1b407bb97ab38853ba0222182a722152f40baa8d1"), looks := false }, kinds := [], alts := [], laidByText := true, laidKinds := [.data, .pinned], laidTests := true, laidLooks := .later }
def RunsOrderUptoCardSaid : Prop := Claim7.holds Tryz.pinned (.plain (OpenSpec.upto runsOrderSpec)) runsOrderUptoCard

/-- THE SECOND FORM's CARD OF 'quadratlaw26.RunsNames'. -/
def runsNamesUptoCard : Claim7 := { stood := { row := runsNamesUptoRow, standIns := [], harness := (true, "958f70530007b389710de9c1b407bb97ab38853ba0222182a722152f40baa8d1"), looks := false }, kinds := [], alts := [], laidByText := true, laidKinds := [.data, .pinned], laidTests := true, laidLooks := .later }
def RunsNamesUptoCardSaid : Prop := Claim7.holds Tryz.pinned (.plain (OpenSpec.upto runsNamesSpec)) runsNamesUptoCard

/-- THE SECOND FORM's CARD OF 'quadratlaw27.MergeNames'. -/
def mergeNamesUptoCard : Claim7 := { stood := { row := mergeNamesUptoRow, standIns := [], harness := (true, "958f70530007b389710de9c1b407bb97ab38853ba0222182a722152f40baa8d1"), looks := false }, kinds := [], alts := [], laidByText := true, laidKinds := [.data, .pinned], laidTests := true, laidLooks := .later }
def MergeNamesUptoCardSaid : Prop := Claim7.holds Tryz.pinned (.plain (OpenSpec.upto mergeNamesSpec)) mergeNamesUptoCard

/-- THE SECOND FORM's CARD OF 'quadratlaw28.SeekNames'. -/
def seekNamesUptoCard : Claim7 := { stood := { row := seekNamesUptoRow, standIns := [], harness := (true, "958f70530007b389710de9c1b407bb97ab38853ba0222182a722152f40baa8d1"), looks := false }, kinds := [], alts := [], laidByText := true, laidKinds := [.data, .pinned], laidTests := true, laidLooks := .later }
def SeekNamesUptoCardSaid : Prop := Claim7.holds Tryz.pinned (.plain (OpenSpec.upto seekNamesSpec)) seekNamesUptoCard
end Rows
end Go.Proofs.YtlmpjdionndncaaGreatDoor
