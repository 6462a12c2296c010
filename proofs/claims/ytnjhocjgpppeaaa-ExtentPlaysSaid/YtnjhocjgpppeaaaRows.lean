/-
  No cell of these rows narrows 'for every input' (looked for: loops, veiled, ifaces, maps, wideKeys, modest, calm, conditions, laid).
  DERIVED. THE GIVEN ROWS OF THIS SEAT. 5 by the template 'for every input the law returns true; each argument reads behind the call as it read before'; 0 by the template 'total and deterministic' (their statements: YtnjhocjgpppeaaaTotals.lean).
  GIVEN WITH THE SEED: the statements are not yours to turn. If you find one false, say at which input.
  Laid BY PROGRAM, IN A SANDBOX (cutbox-rows.mjs): the forced cells as the released guide's own fill.sh prints them over the translation a83fb6ec110a7a72… (all of the seat's roots in one cut). By AI agents, Wed Nov 11 2026. No macro, syntax, notation, axiom, sorry.
-/
import Derived.Test.YtnjhocjgpppeaaaChecked
import GoSem.Claim
import GoSem.ClaimJoined
import GoSem.ClaimMapViews
import Derived.JoinedTies
import Derived.KernelRfl
namespace Go.Proofs.Ytnjhocjgpppeaaa
/- THE CELL 'sum', in the pinned program and in every row, IS THE sha256 OF THE DUMP (.gsa) THAT YtnjhocjgpppeaaaProg.lean LOADS. Nothing in Lean hashes anything: it is a label: what it is worth is what the hold of that sum in a sandbox is worth. -/
noncomputable def Try.pinned : Pinned := { name := "ytnjhocjgpppeaaa", sum := "a83fb6ec110a7a72cbf18e9eb1cc717f7466e06deccea08e74dc410fbffad69e", checked := Try.checked }
namespace Rows
def none {H : Type} : Left H := { results := [], args := [] }

/-- 'quadratlaw04.ExtentSame': WHATEVER THE INPUT: true; the input reads as it did. -/
def extentSameSpec : ChangeSpec := { name := "extentSame", fn := fun _ => fun
  | [d1, d2] => { results := [.lit (.bool true)], args := [d1, d2] }
  | _ => none }
def extentSameRow : OpenClaim := { program := "ytnjhocjgpppeaaa", sum := "a83fb6ec110a7a72cbf18e9eb1cc717f7466e06deccea08e74dc410fbffad69e", func := "quadrat/quadratlaw04.ExtentSame", spec := "extentSame", inPlace := ["slices.overlaps[quadrat/api.Extent]"], unfollowed := true, recurses := true, apart := false }
def ExtentSameSaid : Prop := extentSameRow.holds Try.pinned (OpenSpec.ofChange extentSameSpec)

/-- ITS FALSE NEIGHBOUR: 'it returns false'. Refute it at one input. -/
def extentSameWrong : ChangeSpec := { name := "extentSame", fn := fun _ => fun
  | [d1, d2] => { results := [.lit (.bool false)], args := [d1, d2] }
  | _ => none }
def ExtentSameWrongFalsely : Prop := extentSameRow.holds Try.pinned (OpenSpec.ofChange extentSameWrong)

/-- 'quadratlaw04.ExtentFirst': WHATEVER THE INPUT: true; the input reads as it did. -/
def extentFirstSpec : ChangeSpec := { name := "extentFirst", fn := fun _ => fun
  | [d1, d2] => { results := [.lit (.bool true)], args := [d1, d2] }
  | _ => none }
def extentFirstRow : OpenClaim := { program := "ytnjhocjgpppeaaa", sum := "a83fb6ec110a7a72cbf18e9eb1cc717f7466e06deccea08e74dc410fbffad69e", func := "quadrat/quadratlaw04.ExtentFirst", spec := "extentFirst", inPlace := ["slices.overlaps[quadrat/api.Extent]"], unfollowed := true, recurses := true, apart := false }
def ExtentFirstSaid : Prop := extentFirstRow.holds Try.pinned (OpenSpec.ofChange extentFirstSpec)

/-- ITS FALSE NEIGHBOUR: 'it returns false'. Refute it at one input. -/
def extentFirstWrong : ChangeSpec := { name := "extentFirst", fn := fun _ => fun
  | [d1, d2] => { results := [.lit (.bool false)], args := [d1, d2] }
  | _ => none }
def ExtentFirstWrongFalsely : Prop := extentFirstRow.holds Try.pinned (OpenSpec.ofChange extentFirstWrong)

/-- 'quadratlaw04.ExtentPlays': WHATEVER THE INPUT: true; the input reads as it did. -/
def extentPlaysSpec : ChangeSpec := { name := "extentPlays", fn := fun _ => fun
  | [d1, d2, d3] => { results := [.lit (.bool true)], args := [d1, d2, d3] }
  | _ => none }
def extentPlaysRow : OpenClaim := { program := "ytnjhocjgpppeaaa", sum := "a83fb6ec110a7a72cbf18e9eb1cc717f7466e06deccea08e74dc410fbffad69e", func := "quadrat/quadratlaw04.ExtentPlays", spec := "extentPlays", inPlace := ["slices.overlaps[quadrat/api.Extent]"], unfollowed := true, recurses := true, apart := false }
def ExtentPlaysSaid : Prop := extentPlaysRow.holds Try.pinned (OpenSpec.ofChange extentPlaysSpec)

/-- ITS FALSE NEIGHBOUR: 'it returns false'. Refute it at one input. -/
def extentPlaysWrong : ChangeSpec := { name := "extentPlays", fn := fun _ => fun
  | [d1, d2, d3] => { results := [.lit (.bool false)], args := [d1, d2, d3] }
  | _ => none }
def ExtentPlaysWrongFalsely : Prop := extentPlaysRow.holds Try.pinned (OpenSpec.ofChange extentPlaysWrong)

/-- 'quadratlaw04.ExtentNames': WHATEVER THE INPUT: true; the input reads as it did. -/
def extentNamesSpec : ChangeSpec := { name := "extentNames", fn := fun _ => fun
  | [] => { results := [.lit (.bool true)], args := [] }
  | _ => none }
def extentNamesRow : OpenClaim := { program := "ytnjhocjgpppeaaa", sum := "a83fb6ec110a7a72cbf18e9eb1cc717f7466e06deccea08e74dc410fbffad69e", func := "quadrat/quadratlaw04.ExtentNames", spec := "extentNames", inPlace := ["slices.overlaps[quadrat/api.Extent]"], unfollowed := true, recurses := true, apart := false }
def ExtentNamesSaid : Prop := extentNamesRow.holds Try.pinned (OpenSpec.ofChange extentNamesSpec)

/-- ITS FALSE NEIGHBOUR: 'it returns false'. Refute it at one input. -/
def extentNamesWrong : ChangeSpec := { name := "extentNames", fn := fun _ => fun
  | [] => { results := [.lit (.bool false)], args := [] }
  | _ => none }
def ExtentNamesWrongFalsely : Prop := extentNamesRow.holds Try.pinned (OpenSpec.ofChange extentNamesWrong)

/-- 'quadratlaw04.ExtentBack': WHATEVER THE INPUT: true; the input reads as it did. -/
def extentBackSpec : ChangeSpec := { name := "extentBack", fn := fun _ => fun
  | [d1, d2, d3] => { results := [.lit (.bool true)], args := [d1, d2, d3] }
  | _ => none }
def extentBackRow : OpenClaim := { program := "ytnjhocjgpppeaaa", sum := "a83fb6ec110a7a72cbf18e9eb1cc717f7466e06deccea08e74dc410fbffad69e", func := "quadrat/quadratlaw04.ExtentBack", spec := "extentBack", inPlace := ["slices.overlaps[quadrat/api.Extent]"], unfollowed := true, recurses := true, apart := false }
def ExtentBackSaid : Prop := extentBackRow.holds Try.pinned (OpenSpec.ofChange extentBackSpec)

/-- ITS FALSE NEIGHBOUR: 'it returns false'. Refute it at one input. -/
def extentBackWrong : ChangeSpec := { name := "extentBack", fn := fun _ => fun
  | [d1, d2, d3] => { results := [.lit (.bool false)], args := [d1, d2, d3] }
  | _ => none }
def ExtentBackWrongFalsely : Prop := extentBackRow.holds Try.pinned (OpenSpec.ofChange extentBackWrong)

/- THE SECOND FORM. 'bulk': how many values and letters a reading holds, each counted each time it is reached (what is shared counts as often as it is met; a slice's spare places count too). A statement '..UptoSaid' is the law's where the arguments, and the package variables that the reading takes, are together of bulk at most 1048576: NARROWER than '..Said'. Prove '..Said' where nothing that the law and all that it calls make is longer than what came in: it says more and counts as full. Else prove '..UptoSaid'. A law counts once. -/
mutual
def uptoBulk {H : Type} : DataW H → Nat
  | .lit (.string bytes) => bytes.length + 1
  | .lit _ => 1
  | .nil => 1
  | .ptr d => uptoBulk d + 1
  | .slice elems spare => uptoBulkAll elems + uptoBulkAll spare + 1
  | .agg parts => uptoBulkAll parts + 1
  | .iface _ d => uptoBulk d + 1
  | .map entries => uptoBulkEntries entries + 1
  | .held _ => 1
def uptoBulkAll {H : Type} : List (DataW H) → Nat
  | [] => 0
  | d :: r => uptoBulk d + uptoBulkAll r
def uptoBulkEntries {H : Type} : List (Lit × DataW H) → Nat
  | [] => 0
  | x :: r => uptoBulkEntry x + uptoBulkEntries r
def uptoBulkEntry {H : Type} : Lit × DataW H → Nat
  | (.string bytes, d) => bytes.length + uptoBulk d + 1
  | (_, d) => uptoBulk d + 1
 end
def uptoSmall : (H : Type) → List (DataW H) → Bool := fun _ ds => decide (uptoBulkAll ds ≤ 1048576)
def OpenSpec.upto (s : _root_.Go.ChangeSpec) : _root_.Go.OpenSpec := { _root_.Go.OpenSpec.ofChange s with cond := some uptoSmall }

/-- 'quadratlaw04.ExtentSame', WHERE WHAT IT READS IS OF BULK AT MOST 1048576: true; the input reads as it did. -/
def extentSameUptoRow : OpenClaim := { program := "ytnjhocjgpppeaaa", sum := "a83fb6ec110a7a72cbf18e9eb1cc717f7466e06deccea08e74dc410fbffad69e", func := "quadrat/quadratlaw04.ExtentSame", spec := "extentSame", inPlace := ["slices.overlaps[quadrat/api.Extent]"], unfollowed := true, recurses := true, apart := false, narrowed := true }
def ExtentSameUptoSaid : Prop := extentSameUptoRow.holds Try.pinned (OpenSpec.upto extentSameSpec)

/-- 'quadratlaw04.ExtentFirst', WHERE WHAT IT READS IS OF BULK AT MOST 1048576: true; the input reads as it did. -/
def extentFirstUptoRow : OpenClaim := { program := "ytnjhocjgpppeaaa", sum := "a83fb6ec110a7a72cbf18e9eb1cc717f7466e06deccea08e74dc410fbffad69e", func := "quadrat/quadratlaw04.ExtentFirst", spec := "extentFirst", inPlace := ["slices.overlaps[quadrat/api.Extent]"], unfollowed := true, recurses := true, apart := false, narrowed := true }
def ExtentFirstUptoSaid : Prop := extentFirstUptoRow.holds Try.pinned (OpenSpec.upto extentFirstSpec)

/-- 'quadratlaw04.ExtentPlays', WHERE WHAT IT READS IS OF BULK AT MOST 1048576: true; the input reads as it did. -/
def extentPlaysUptoRow : OpenClaim := { program := "ytnjhocjgpppeaaa", sum := "a83fb6ec110a7a72cbf18e9eb1cc717f7466e06deccea08e74dc410fbffad69e", func := "quadrat/quadratlaw04.ExtentPlays", spec := "extentPlays", inPlace := ["slices.overlaps[quadrat/api.Extent]"], unfollowed := true, recurses := true, apart := false, narrowed := true }
def ExtentPlaysUptoSaid : Prop := extentPlaysUptoRow.holds Try.pinned (OpenSpec.upto extentPlaysSpec)

/-- 'quadratlaw04.ExtentNames', WHERE WHAT IT READS IS OF BULK AT MOST 1048576: true; the input reads as it did. -/
def extentNamesUptoRow : OpenClaim := { program := "ytnjhocjgpppeaaa", sum := "a83fb6ec110a7a72cbf18e9eb1cc717f7466e06deccea08e74dc410fbffad69e", func := "quadrat/quadratlaw04.ExtentNames", spec := "extentNames", inPlace := ["slices.overlaps[quadrat/api.Extent]"], unfollowed := true, recurses := true, apart := false, narrowed := true }
def ExtentNamesUptoSaid : Prop := extentNamesUptoRow.holds Try.pinned (OpenSpec.upto extentNamesSpec)

/-- 'quadratlaw04.ExtentBack', WHERE WHAT IT READS IS OF BULK AT MOST 1048576: true; the input reads as it did. -/
def extentBackUptoRow : OpenClaim := { program := "ytnjhocjgpppeaaa", sum := "a83fb6ec110a7a72cbf18e9eb1cc717f7466e06deccea08e74dc410fbffad69e", func := "quadrat/quadratlaw04.ExtentBack", spec := "extentBack", inPlace := ["slices.overlaps[quadrat/api.Extent]"], unfollowed := true, recurses := true, apart := false, narrowed := true }
def ExtentBackUptoSaid : Prop := extentBackUptoRow.holds Try.pinned (OpenSpec.upto extentBackSpec)

end Rows
end Go.Proofs.Ytnjhocjgpppeaaa
