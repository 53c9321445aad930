/- Texts on which the proof of this claim stands: Sg3b. -/
import Derived.Test.YtdjpokckamlccaaGreatDoorP8
import Derived.Test.YtdjpokckamlccaaGreatDoorP9
import Derived.Test.YtdjpokckamlccaaGreatDoorP10
import Derived.Test.YtdjpokckamlccaaGreatDoorP11
import Derived.Test.YtdjpokckamlccaaGreatDoorP12
import Derived.Test.YtdjpokckamlccaaGreatDoorP13
import Derived.Test.YtdjpokckamlccaaGreatDoorP14
import Derived.Test.YtdjpokckamlccaaGreatDoorP15
namespace Go.Proofs.YtdjpokckamlccaaGreatDoor
set_option maxRecDepth 1000000 in
theorem r80 : (bif I.callC Tryz.prog 2 (I.orI (I.snapX S78) (I.orI (I.snapX S79) Xb)) 10000 100 (2 * S80.f) S80.args S80.h S80.nx (I.endK S80) then true else false) = true := by kernel_rfl
theorem ok80 : I.SnapOk Tryz.prog 2 S80 := I.snap_of_run (I.orI_ok (I.snapX_ok ok78) (I.orI_ok (I.snapX_ok ok79) xb_ok)) r80
end Go.Proofs.YtdjpokckamlccaaGreatDoor
