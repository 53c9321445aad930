/- Texts on which the proof of this claim stands: Cja. -/
import Derived.Test.YtdjpokckamlccaaGreatDoorCards
import Derived.JoinedCond
import Derived.ProofKit
namespace Go.Proofs.YtdjpokckamlccaaGreatDoor.storeNil
open Go.ChangeShapes Go.WideShapes Go.ChangeAt Go.RowKit
theorem cj1 : laidOutB Tryz.pinned.checked.prog = true := by kernel_rfl
theorem cj9 : (Rows.storeNilRow.inPlace == Tryz.pinned.checked.prog.inPlace 3) = true := by kernel_rfl
end Go.Proofs.YtdjpokckamlccaaGreatDoor.storeNil
