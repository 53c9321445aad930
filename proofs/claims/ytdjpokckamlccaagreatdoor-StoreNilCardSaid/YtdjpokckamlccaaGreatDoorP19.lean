/- Texts on which the proof of this claim stands: Sg4b. -/
import Derived.Test.YtdjpokckamlccaaGreatDoorP8
import Derived.Test.YtdjpokckamlccaaGreatDoorP9
import Derived.Test.YtdjpokckamlccaaGreatDoorP10
import Derived.Test.YtdjpokckamlccaaGreatDoorP11
import Derived.Test.YtdjpokckamlccaaGreatDoorP12
import Derived.Test.YtdjpokckamlccaaGreatDoorP13
import Derived.Test.YtdjpokckamlccaaGreatDoorP14
import Derived.Test.YtdjpokckamlccaaGreatDoorP15
import Derived.Test.YtdjpokckamlccaaGreatDoorP16
import Derived.Test.YtdjpokckamlccaaGreatDoorP17
namespace Go.Proofs.YtdjpokckamlccaaGreatDoor
set_option maxRecDepth 1000000 in
theorem r119 : (bif I.callC Tryz.prog 2 (I.orI (I.snapX S117) (I.orI (I.snapX S118) Xb)) 10000 100 (2 * S119.f) S119.args S119.h S119.nx (I.endK S119) then true else false) = true := by kernel_rfl
theorem ok119 : I.SnapOk Tryz.prog 2 S119 := I.snap_of_run (I.orI_ok (I.snapX_ok ok117) (I.orI_ok (I.snapX_ok ok118) xb_ok)) r119
end Go.Proofs.YtdjpokckamlccaaGreatDoor
