/-
  DERIVED. GIVEN WITH THE SEED: THE CARDS: each row of YtinhinjpfmdfiaaGreatDoorRows.lean that lists a variable, with what it lists TIED to the program's text (the seventh form; the later family's looks); each row that meets fmt, with fmt's text TOLD by the authors' own Lean function (tested against real Go, not proved from fmt's source: count such statements apart). THE CARD IS WHAT COUNTS. Prove the row's statement (the work); the ties are given (YtinhinjpfmdfiaaGreatDoorTie.lean); close each card by the builder's one call (the guide's Derived/Test/ToyasCard.lean, 'card_holds'). Laid BY PROGRAM, IN A SANDBOX (cutbox-door.mjs). By AI agents, Wed Nov 11 2026. No macro, syntax, notation, axiom, sorry.
-/
import Derived.Test.YtinhinjpfmdfiaaGreatDoorRows
import GoSem.ClaimSeven
namespace Go.Proofs.YtinhinjpfmdfiaaGreatDoor
namespace Rows

/-- THE TIED CARD OF 'parterrelaw23.DagReach'. -/
def dagReachCard : Claim7 := { stood := { row := dagReachRow, standIns := [], harness := (true, "16cc25fdb9fd0853e260aed568062d8c2817e1b4d2a016aa6d8419f9d921faa8"), looks := false }, kinds := [], alts := [], laidByText := true, laidKinds := [.data], laidTests := true, laidLooks := .later }
def DagReachCardSaid : Prop := Claim7.holds Tryz.pinned (.plain (OpenSpec.ofChange dagReachSpec)) dagReachCard

/-- THE SECOND FORM's CARD OF 'parterrelaw23.DagReach'. -/
def dagReachUptoCard : Claim7 := { stood := { row := dagReachUptoRow, standIns := [], harness := (true, "16cc25fdb9fd0853e260aed568062d8c2817e1b4d2a016aa6d8419f9d921faa8"), looks := false }, kinds := [], alts := [], laidByText := true, laidKinds := [.data], laidTests := true, laidLooks := .later }
def DagReachUptoCardSaid : Prop := Claim7.holds Tryz.pinned (.plain (OpenSpec.upto dagReachSpec)) dagReachUptoCard
end Rows
end Go.Proofs.YtinhinjpfmdfiaaGreatDoor
