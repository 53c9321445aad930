/- Texts on which the proof of this claim stands: Sg5a. -/
import Derived.Test.YtdjpokckamlccaaGreatDoorP8
import Derived.Test.YtdjpokckamlccaaGreatDoorP9
import Derived.Test.YtdjpokckamlccaaGreatDoorP10
import Derived.Test.YtdjpokckamlccaaGreatDoorP11
import Derived.Test.YtdjpokckamlccaaGreatDoorP12
import Derived.Test.YtdjpokckamlccaaGreatDoorP13
import Derived.Test.YtdjpokckamlccaaGreatDoorP14
import Derived.Test.YtdjpokckamlccaaGreatDoorP15
import Derived.Test.YtdjpokckamlccaaGreatDoorP16
import Derived.Test.YtdjpokckamlccaaGreatDoorP17
import Derived.Test.YtdjpokckamlccaaGreatDoorP18
import Derived.Test.YtdjpokckamlccaaGreatDoorP19
namespace Go.Proofs.YtdjpokckamlccaaGreatDoor
set_option maxRecDepth 1000000 in
theorem r124 : (bif I.callC Tryz.prog 2 (I.orI (I.snapX S25) (I.orI (I.snapX S82) (I.orI (I.snapX S85) (I.orI (I.snapX S86) (I.orI (I.snapX S90) (I.orI (I.snapX S119) (I.orI (I.snapX S123) Xb))))))) 10000 100 (2 * S124.f) S124.args S124.h S124.nx (I.endK S124) then true else false) = true := by kernel_rfl
theorem ok124 : I.SnapOk Tryz.prog 2 S124 := I.snap_of_run (I.orI_ok (I.snapX_ok ok25) (I.orI_ok (I.snapX_ok ok82) (I.orI_ok (I.snapX_ok ok85) (I.orI_ok (I.snapX_ok ok86) (I.orI_ok (I.snapX_ok ok90) (I.orI_ok (I.snapX_ok ok119) (I.orI_ok (I.snapX_ok ok123) xb_ok))))))) r124
end Go.Proofs.YtdjpokckamlccaaGreatDoor
