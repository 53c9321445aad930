/- Texts on which the proof of this claim stands: Cjb. -/
import Derived.Test.YtdjpokckamlccaaGreatDoorCards
import Derived.JoinedCond
import Derived.ProofKit
namespace Go.Proofs.YtdjpokckamlccaaGreatDoor.storeNil
open Go.ChangeShapes Go.WideShapes Go.ChangeAt Go.RowKit
theorem cj10 : (Rows.storeNilRow.unfollowed == Tryz.pinned.checked.prog.unfollowed 3) = true := by kernel_rfl
theorem cj11 : (Rows.storeNilRow.recurses == Tryz.pinned.checked.prog.recurses 3) = true := by kernel_rfl
end Go.Proofs.YtdjpokckamlccaaGreatDoor.storeNil
