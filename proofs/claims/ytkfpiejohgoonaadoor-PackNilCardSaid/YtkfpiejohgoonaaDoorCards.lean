/-
  DERIVED. GIVEN WITH THE SEED: THE CARDS: each row of YtkfpiejohgoonaaDoorRows.lean that lists a variable, with what it lists TIED to the program's text (the seventh form; the later family's looks); each row that meets fmt, with fmt's text TOLD by the authors' own Lean function (tested against real Go, not proved from fmt's source: count such statements apart). THE CARD IS WHAT COUNTS. Prove the row's statement (the work); the ties are given (YtkfpiejohgoonaaDoorTie.lean); close each card by the builder's one call (the guide's Derived/Test/ToyasCard.lean, 'card_holds'). Laid BY PROGRAM, IN A SANDBOX (cutbox-door.mjs). By AI agents, Wed Nov 11 2026. No macro, syntax, notation, axiom, sorry.
-/
import Derived.Test.YtkfpiejohgoonaaDoorRows
import GoSem.ClaimSeven
namespace Go.Proofs.YtkfpiejohgoonaaDoor
namespace Rows

/-- THE TIED CARD OF 'parterrelaw21.PackNil'. -/
def packNilCard : Claim7 := { stood := { row := packNilRow, standIns := [], harness := (true, "8a0a22ec213ce262e8ff607d88e15e05cace4392eeda54a839811dd3baca9862"), looks := false }, kinds := [], alts := [], laidByText := true, laidKinds := [.data], laidTests := true, laidLooks := .later }
def PackNilCardSaid : Prop := Claim7.holds Tryd.pinned (.plain (OpenSpec.ofChange packNilSpec)) packNilCard

/-- THE SECOND FORM's CARD OF 'parterrelaw21.PackNil'. -/
def packNilUptoCard : Claim7 := { stood := { row := packNilUptoRow, standIns := [], harness := (true, "8a0a22ec213ce262e8ff607d88e15e05cace4392eeda54a839811dd3baca9862"), looks := false }, kinds := [], alts := [], laidByText := true, laidKinds := [.data], laidTests := true, laidLooks := .later }
def PackNilUptoCardSaid : Prop := Claim7.holds Tryd.pinned (.plain (OpenSpec.upto packNilSpec)) packNilUptoCard
end Rows
end Go.Proofs.YtkfpiejohgoonaaDoor
