/-
  DERIVED. GIVEN WITH THE SEED: THE CARDS: each row of YtbeegepcdglcaaaGreatDoorRows.lean that lists a variable, with what it lists TIED to the program's text (the seventh form; the later family's looks); each row that meets fmt, with fmt's text TOLD by the authors' own Lean function (tested against real Go, not proved from fmt's source: count such statements apart). THE CARD IS WHAT COUNTS. Prove the row's statement (the work); the ties are given (YtbeegepcdglcaaaGreatDoorTie.lean); close each card by the builder's one call (the guide's Derived/Test/ToyasCard.lean, 'card_holds'). Laid BY PROGRAM, IN A SANDBOX (cutbox-door.mjs). By AI agents, Wed Nov 11 2026. No macro, syntax, notation, axiom, sorry.
-/
import Derived.Test.YtbeegepcdglcaaaGreatDoorRows
import GoSem.ClaimSeven
namespace Go.Proofs.YtbeegepcdglcaaaGreatDoor
namespace Rows

/-- THE TIED CARD OF 'parterrelaw21.PackBuilds'. -/
def packBuildsCard : Claim7 := { stood := { row := packBuildsRow, standIns := [], harness := (true, "b8b74c7bc80e06817a2022b79d4abb0aba18d1d8d47757012da35a25b4462fbe"), looks := false }, kinds := [], alts := [], laidByText := true, laidKinds := [.data], laidTests := true, laidLooks := .later }
def PackBuildsCardSaid : Prop := Claim7.holds Tryz.pinned (.plain (OpenSpec.ofChange packBuildsSpec)) packBuildsCard

/-- THE TIED CARD OF 'parterrelaw21.PackOpens'. -/
def packOpensCard : Claim7 := { stood := { row := packOpensRow, standIns := [], harness := (true, "b8b74c7bc80e06817a2022b79d4abb0aba18d1d8d47757012da35a25b4462fbe"), looks := false }, kinds := [], alts := [], laidByText := true, laidKinds := [.data], laidTests := true, laidLooks := .later }
def PackOpensCardSaid : Prop := Claim7.holds Tryz.pinned (.plain (OpenSpec.ofChange packOpensSpec)) packOpensCard

/-- THE SECOND FORM's CARD OF 'parterrelaw21.PackBuilds'. -/
def packBuildsUptoCard : Claim7 := { stood := { row := packBuildsUptoRow, standIns := [], harness := (true, "b8b74c7bc80e06817a2022b79d4abb0aba18d1d8d47757012da35a25b4462fbe"), looks := false }, kinds := [], alts := [], laidByText := true, laidKinds := [.data], laidTests := true, laidLooks := .later }
def PackBuildsUptoCardSaid : Prop := Claim7.holds Tryz.pinned (.plain (OpenSpec.upto packBuildsSpec)) packBuildsUptoCard

/-- THE SECOND FORM's CARD OF 'parterrelaw21.PackOpens'. -/
def packOpensUptoCard : Claim7 := { stood := { row := packOpensUptoRow, standIns := [], harness := (true, "b8b74c7bc80e06817a2022b79d4abb0aba18d1d8d47757012da35a25b4462fbe"), looks := false }, kinds := [], alts := [], laidByText := true, laidKinds := [.data], laidTests := true, laidLooks := .later }
def PackOpensUptoCardSaid : Prop := Claim7.holds Tryz.pinned (.plain (OpenSpec.upto packOpensSpec)) packOpensUptoCard
end Rows
end Go.Proofs.YtbeegepcdglcaaaGreatDoor
