/-
  DERIVED. GIVEN WITH THE SEED: THE CARDS: each row of YtojefiolcedigaaGreatDoorRows.lean that lists a variable, with what it lists TIED to the program's text (the seventh form; the later family's looks); each row that meets fmt, with fmt's text TOLD by the authors' own Lean function (tested against real Go, not proved from fmt's source: count such statements apart). THE CARD IS WHAT COUNTS. Prove the row's statement (the work); the ties are given (YtojefiolcedigaaGreatDoorTie.lean); close each card by the builder's one call (the guide's Derived/Test/ToyasCard.lean, 'card_holds'). Laid BY PROGRAM, IN A SANDBOX (cutbox-door.mjs). By AI agents, Wed Nov 11 2026. No macro, syntax, notation, axiom, sorry.
-/
import Derived.Test.YtojefiolcedigaaGreatDoorRows
import GoSem.ClaimSeven
namespace Go.Proofs.YtojefiolcedigaaGreatDoor
namespace Rows

/-- THE TIED CARD OF 'parterrelaw12.ObjectBytes'. -/
def objectBytesCard : Claim7 := { stood := { row := objectBytesRow, standIns := [], harness := (true, "204f78c56fb6e0e87075562f7fdd969d17bcf175f7a7d3f328268b390b2f9747"), looks := false }, kinds := [], alts := [], laidByText := true, laidKinds := [.data], laidTests := true, laidLooks := .later }
def ObjectBytesCardSaid : Prop := Claim7.holds Tryz.pinned (.plain (OpenSpec.ofChange objectBytesSpec)) objectBytesCard

/-- THE TIED CARD OF 'parterrelaw12.ObjectKinds'. -/
def objectKindsCard : Claim7 := { stood := { row := objectKindsRow, standIns := [], harness := (true, "204f78c56fb6e0e87075562f7fdd969d17bcf175f7a7d3f328268b390b2f9747"), looks := false }, kinds := [], alts := [], laidByText := true, laidKinds := [.data], laidTests := true, laidLooks := .later }
def ObjectKindsCardSaid : Prop := Claim7.holds Tryz.pinned (.plain (OpenSpec.ofChange objectKindsSpec)) objectKindsCard

/-- THE TIED CARD OF 'parterrelaw12.ObjectBack'. -/
def objectBackCard : Claim7 := { stood := { row := objectBackRow, standIns := [], harness := (true, "204f78c56fb6e0e87075562f7fdd969d17bcf175f7a7d3f328268b390b2f9747"), looks := false }, kinds := [], alts := [], laidByText := true, laidKinds := [.data], laidTests := true, laidLooks := .later }
def ObjectBackCardSaid : Prop := Claim7.holds Tryz.pinned (.plain (OpenSpec.ofChange objectBackSpec)) objectBackCard

/-- THE SECOND FORM's CARD OF 'parterrelaw12.ObjectBytes'. -/
def objectBytesUptoCard : Claim7 := { stood := { row := objectBytesUptoRow, standIns := [], harness := (true, "204f78c56fb6e0e87075562f7fdd969d17bcf175f7a7d3f328268b390b2f9747"), looks := false }, kinds := [], alts := [], laidByText := true, laidKinds := [.data], laidTests := true, laidLooks := .later }
def ObjectBytesUptoCardSaid : Prop := Claim7.holds Tryz.pinned (.plain (OpenSpec.upto objectBytesSpec)) objectBytesUptoCard

/-- THE SECOND FORM's CARD OF 'parterrelaw12.ObjectKinds'. -/
def objectKindsUptoCard : Claim7 := { stood := { row := objectKindsUptoRow, standIns := [], harness := (true, "204f78c56fb6e0e87075562f7fdd969d17bcf175f7a7d3f328268b390b2f9747"), looks := false }, kinds := [], alts := [], laidByText := true, laidKinds := [.data], laidTests := true, laidLooks := .later }
def ObjectKindsUptoCardSaid : Prop := Claim7.holds Tryz.pinned (.plain (OpenSpec.upto objectKindsSpec)) objectKindsUptoCard

/-- THE SECOND FORM's CARD OF 'parterrelaw12.ObjectBack'. -/
def objectBackUptoCard : Claim7 := { stood := { row := objectBackUptoRow, standIns := [], harness := (true, "204f78c56fb6e0e87075562f7fdd969d17bcf175f7a7d3f328268b390b2f9747"), looks := false }, kinds := [], alts := [], laidByText := true, laidKinds := [.data], laidTests := true, laidLooks := .later }
def ObjectBackUptoCardSaid : Prop := Claim7.holds Tryz.pinned (.plain (OpenSpec.upto objectBackSpec)) objectBackUptoCard
end Rows
end Go.Proofs.YtojefiolcedigaaGreatDoor
