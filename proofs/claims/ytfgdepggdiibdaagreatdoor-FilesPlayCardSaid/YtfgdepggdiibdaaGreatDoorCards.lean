/-
  DERIVED. GIVEN WITH THE SEED: THE CARDS: each row of YtfgdepggdiibdaaGreatDoorRows.lean that lists a variable, with what it lists TIED to the program's text (the seventh form; the later family's looks); each row that meets fmt, with fmt's text TOLD by the authors' own Lean function (tested against real Go, not proved from fmt's source: count such statements apart). THE CARD IS WHAT COUNTS. Prove the row's statement (the work); the ties are given (YtfgdepggdiibdaaGreatDoorTie.lean); close each card by the builder's one call (the guide's Derived/Test/ToyasCard.lean, 'card_holds'). Laid BY PROGRAM, IN A SANDBOX (cutbox-door.mjs). By AI agents, Wed Nov 11 2026. No macro, syntax, notation, axiom, sorry.
-/
import Derived.Test.YtfgdepggdiibdaaGreatDoorRows
import GoSem.ClaimSeven
namespace Go.Proofs.YtfgdepggdiibdaaGreatDoor
namespace Rows

/-- THE TIED CARD OF 'parterrelaw06.FilesTurned'. -/
def filesTurnedCard : Claim7 := { stood := { row := filesTurnedRow, standIns := [], harness := (true, "ee2cbdd29639f21ec3347dac015c6c9f99c700d68142f479da3e272c746c61c3"), looks := true }, kinds := [], alts := [], laidByText := true, laidKinds := [.data], laidTests := true, laidLooks := .later }
def FilesTurnedCardSaid : Prop := Claim7.holds Tryz.pinned (.plain (OpenSpec.ofChange filesTurnedSpec)) filesTurnedCard

/-- THE TIED CARD OF 'parterrelaw06.FilesPlay'. -/
def filesPlayCard : Claim7 := { stood := { row := filesPlayRow, standIns := [], harness := (true, "ee2cbdd29639f21ec3347dac015c6c9f99c700d68142f479da3e272c746c61c3"), looks := true }, kinds := [], alts := [], laidByText := true, laidKinds := [.data], laidTests := true, laidLooks := .later }
def FilesPlayCardSaid : Prop := Claim7.holds Tryz.pinned (.plain (OpenSpec.ofChange filesPlaySpec)) filesPlayCard

/-- THE SECOND FORM's CARD OF 'parterrelaw06.FilesTurned'. -/
def filesTurnedUptoCard : Claim7 := { stood := { row := filesTurnedUptoRow, standIns := [], harness := (true, "ee2cbdd29639f21ec3347dac015c6c9f99c700d68142f479da3e272c746c61c3"), looks := true }, kinds := [], alts := [], laidByText := true, laidKinds := [.data], laidTests := true, laidLooks := .later }
def FilesTurnedUptoCardSaid : Prop := Claim7.holds Tryz.pinned (.plain (OpenSpec.upto filesTurnedSpec)) filesTurnedUptoCard

/-- THE SECOND FORM's CARD OF 'parterrelaw06.FilesPlay'. -/
def filesPlayUptoCard : Claim7 := { stood := { row := filesPlayUptoRow, standIns := [], harness := (true, "ee2cbdd29639f21ec3347dac015c6c9f99c700d68142f479da3e272c746c61c3"), looks := true }, kinds := [], alts := [], laidByText := true, laidKinds := [.data], laidTests := true, laidLooks := .later }
def FilesPlayUptoCardSaid : Prop := Claim7.holds Tryz.pinned (.plain (OpenSpec.upto filesPlaySpec)) filesPlayUptoCard
end Rows
end Go.Proofs.YtfgdepggdiibdaaGreatDoor
