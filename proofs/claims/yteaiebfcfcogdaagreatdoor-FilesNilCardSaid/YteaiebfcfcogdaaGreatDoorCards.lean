/-
  DERIVED. GIVEN WITH THE SEED: THE CARDS: each row of YteaiebfcfcogdaaGreatDoorRows.lean that lists a variable, with what it lists TIED to the program's text (the seventh form; the later family's looks); each row that meets fmt, with fmt's text TOLD by the authors' own Lean function (tested against real Go, not proved from fmt's source: count such statements apart). THE CARD IS WHAT COUNTS. Prove the row's statement (the work); the ties are given (YteaiebfcfcogdaaGreatDoorTie.lean); close each card by the builder's one call (the guide's Derived/Test/ToyasCard.lean, 'card_holds'). Laid BY PROGRAM, IN A SANDBOX (cutbox-door.mjs). By AI agents, Wed Nov 11 2026. No macro, syntax, notation, axiom, sorry.
-/
import Derived.Test.YteaiebfcfcogdaaGreatDoorRows
import GoSem.ClaimSeven
namespace Go.Proofs.YteaiebfcfcogdaaGreatDoor
namespace Rows

/-- THE TIED CARD OF 'parterrelaw06.FilesNil'. -/
def filesNilCard : Claim7 := { stood := { row := filesNilRow, standIns := [], harness := (true, "3050c95dc75281dbce38be9ea5d7029e43da969cde0245e7ae9b9072a29c7886"), looks := true }, kinds := [], alts := [], laidByText := true, laidKinds := [.data], laidTests := true, laidLooks := .later }
def FilesNilCardSaid : Prop := Claim7.holds Tryz.pinned (.plain (OpenSpec.ofChange filesNilSpec)) filesNilCard

/-- THE SECOND FORM's CARD OF 'parterrelaw06.FilesNil'. -/
def filesNilUptoCard : Claim7 := { stood := { row := filesNilUptoRow, standIns := [], harness := (true, "3050c95dc75281dbce38be9ea5d7029e43da969cde0245e7ae9b9072a29c7886"), looks := true }, kinds := [], alts := [], laidByText := true, laidKinds := [.data], laidTests := true, laidLooks := .later }
def FilesNilUptoCardSaid : Prop := Claim7.holds Tryz.pinned (.plain (OpenSpec.upto filesNilSpec)) filesNilUptoCard
end Rows
end Go.Proofs.YteaiebfcfcogdaaGreatDoor
