/-
  DERIVED. GIVEN WITH THE SEED: THE CARDS: each row of YtpaekplhcjleaaaGreatDoorRows.lean that lists a variable, with what it lists TIED to the program's text (the seventh form; the later family's looks); each row that meets fmt, with fmt's text TOLD by the authors' own Lean function (tested against real Go, not proved from fmt's source: count such statements apart). THE CARD IS WHAT COUNTS. Prove the row's statement (the work); the ties are given (YtpaekplhcjleaaaGreatDoorTie.lean); close each card by the builder's one call (the guide's Derived/Test/ToyasCard.lean, 'card_holds'). Laid BY PROGRAM, IN A SANDBOX (cutbox-door.mjs). By AI agents, Wed Nov 11 2026. No macro, syntax, notation, axiom, sorry.
-/
import Derived.Test.YtpaekplhcjleaaaGreatDoorRows
import GoSem.ClaimSeven
namespace Go.Proofs.YtpaekplhcjleaaaGreatDoor
namespace Rows

/-- THE TIED CARD OF 'parterrelaw06.FilesNames'. -/
def filesNamesCard : Claim7 := { stood := { row := filesNamesRow, standIns := [], harness := (true, "3c0be37fd36b431573b11cfdd9668881c9ef87f6aff4aee031ca548ef09bbdcb"), looks := true }, kinds := [], alts := [], laidByText := true, laidKinds := [.data], laidTests := true, laidLooks := .later }
def FilesNamesCardSaid : Prop := Claim7.holds Tryz.pinned (.plain (OpenSpec.ofChange filesNamesSpec)) filesNamesCard

/-- THE SECOND FORM's CARD OF 'parterrelaw06.FilesNames'. -/
def filesNamesUptoCard : Claim7 := { stood := { row := filesNamesUptoRow, standIns := [], harness := (true, "3c0be37fd36b431573b11cfdd9668881c9ef87f6aff4aee031ca548ef09bbdcb"), looks := true }, kinds := [], alts := [], laidByText := true, laidKinds := [.data], laidTests := true, laidLooks := .later }
def FilesNamesUptoCardSaid : Prop := Claim7.holds Tryz.pinned (.plain (OpenSpec.upto filesNamesSpec)) filesNamesUptoCard
end Rows
end Go.Proofs.YtpaekplhcjleaaaGreatDoor
