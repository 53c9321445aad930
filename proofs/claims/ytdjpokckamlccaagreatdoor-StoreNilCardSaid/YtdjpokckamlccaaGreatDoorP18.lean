/- Texts on which the proof of this claim stands: Sg4a. -/
import Derived.Test.YtdjpokckamlccaaGreatDoorP8
import Derived.Test.YtdjpokckamlccaaGreatDoorP9
import Derived.Test.YtdjpokckamlccaaGreatDoorP10
import Derived.Test.YtdjpokckamlccaaGreatDoorP11
import Derived.Test.YtdjpokckamlccaaGreatDoorP12
import Derived.Test.YtdjpokckamlccaaGreatDoorP13
import Derived.Test.YtdjpokckamlccaaGreatDoorP14
import Derived.Test.YtdjpokckamlccaaGreatDoorP15
import Derived.Test.YtdjpokckamlccaaGreatDoorP16
import Derived.Test.YtdjpokckamlccaaGreatDoorP17
namespace Go.Proofs.YtdjpokckamlccaaGreatDoor
set_option maxRecDepth 1000000 in
theorem r82 : (bif I.callC Tryz.prog 2 (I.orI (I.snapX S50) (I.orI (I.snapX S52) (I.orI (I.snapX S53) (I.orI (I.snapX S80) (I.orI (I.snapX S81) Xb))))) 10000 100 (2 * S82.f) S82.args S82.h S82.nx (I.endK S82) then true else false) = true := by kernel_rfl
theorem ok82 : I.SnapOk Tryz.prog 2 S82 := I.snap_of_run (I.orI_ok (I.snapX_ok ok50) (I.orI_ok (I.snapX_ok ok52) (I.orI_ok (I.snapX_ok ok53) (I.orI_ok (I.snapX_ok ok80) (I.orI_ok (I.snapX_ok ok81) xb_ok))))) r82
end Go.Proofs.YtdjpokckamlccaaGreatDoor
