/-
  DERIVED. GIVEN WITH THE SEED: THE CARDS: each row of YtohjpggjgomgoaaGreatDoorRows.lean that lists a variable, with what it lists TIED to the program's text (the seventh form; the later family's looks); each row that meets fmt, with fmt's text TOLD by the authors' own Lean function (tested against real Go, not proved from fmt's source: count such statements apart). THE CARD IS WHAT COUNTS. Prove the row's statement (the work); the ties are given (YtohjpggjgomgoaaGreatDoorTie.lean); close each card by the builder's one call (the guide's Derived/Test/ToyasCard.lean, 'card_holds'). Laid BY PROGRAM, IN A SANDBOX (cutbox-door.mjs). By AI agents, Wed Nov 11 2026. No macro, syntax, notation, axiom, sorry.
-/
import Derived.Test.YtohjpggjgomgoaaGreatDoorRows
import GoSem.ClaimSeven
namespace Go.Proofs.YtohjpggjgomgoaaGreatDoor
namespace Rows

/-- THE TIED CARD OF 'parterrelaw04.JournalHeads'. -/
def journalHeadsCard : Claim7 := { stood := { row := journalHeadsRow, standIns := [], harness := (true, "b022e97e9125e5de9dcb800f11cab582a595b9587cac466e33f6a38118f5a1ed"), looks := false }, kinds := [], alts := [], laidByText := true, laidKinds := [.data], laidTests := true, laidLooks := .later }
def JournalHeadsCardSaid : Prop := Claim7.holds Tryz.pinned (.plain (OpenSpec.ofChange journalHeadsSpec)) journalHeadsCard

/-- THE TIED CARD OF 'parterrelaw04.JournalPlays'. -/
def journalPlaysCard : Claim7 := { stood := { row := journalPlaysRow, standIns := [], harness := (true, "b022e97e9125e5de9dcb800f11cab582a595b9587cac466e33f6a38118f5a1ed"), looks := false }, kinds := [], alts := [], laidByText := true, laidKinds := [.data], laidTests := true, laidLooks := .later }
def JournalPlaysCardSaid : Prop := Claim7.holds Tryz.pinned (.plain (OpenSpec.ofChange journalPlaysSpec)) journalPlaysCard

/-- THE SECOND FORM's CARD OF 'parterrelaw04.JournalHeads'. -/
def journalHeadsUptoCard : Claim7 := { stood := { row := journalHeadsUptoRow, standIns := [], harness := (true, "b022e97e9125e5de9dcb800f11cab582a595b9587cac466e33f6a38118f5a1ed"), looks := false }, kinds := [], alts := [], laidByText := true, laidKinds := [.data], laidTests := true, laidLooks := .later }
def JournalHeadsUptoCardSaid : Prop := Claim7.holds Tryz.pinned (.plain (OpenSpec.upto journalHeadsSpec)) journalHeadsUptoCard

/-- THE SECOND FORM's CARD OF 'parterrelaw04.JournalPlays'. -/
def journalPlaysUptoCard : Claim7 := { stood := { row := journalPlaysUptoRow, standIns := [], harness := (true, "b022e97e9125e5de9dcb800f11cab582a595b9587cac466e33f6a38118f5a1ed"), looks := false }, kinds := [], alts := [], laidByText := true, laidKinds := [.data], laidTests := true, laidLooks := .later }
def JournalPlaysUptoCardSaid : Prop := Claim7.holds Tryz.pinned (.plain (OpenSpec.upto journalPlaysSpec)) journalPlaysUptoCard
end Rows
end Go.Proofs.YtohjpggjgomgoaaGreatDoor
