/- Texts on which the proof of this claim stands: Sg3a. -/
import Derived.Test.YtdjpokckamlccaaGreatDoorP8
import Derived.Test.YtdjpokckamlccaaGreatDoorP9
import Derived.Test.YtdjpokckamlccaaGreatDoorP10
import Derived.Test.YtdjpokckamlccaaGreatDoorP11
import Derived.Test.YtdjpokckamlccaaGreatDoorP12
import Derived.Test.YtdjpokckamlccaaGreatDoorP13
import Derived.Test.YtdjpokckamlccaaGreatDoorP14
import Derived.Test.YtdjpokckamlccaaGreatDoorP15
namespace Go.Proofs.YtdjpokckamlccaaGreatDoor
set_option maxRecDepth 1000000 in
theorem r25 : (bif I.callC Tryz.prog 2 (I.orI (I.snapX S24) Xb) 10000 100 (2 * S25.f) S25.args S25.h S25.nx (I.endK S25) then true else false) = true := by kernel_rfl
theorem ok25 : I.SnapOk Tryz.prog 2 S25 := I.snap_of_run (I.orI_ok (I.snapX_ok ok24) xb_ok) r25
set_option maxRecDepth 1000000 in
theorem r117 : (bif I.callC Tryz.prog 2 (I.orI (I.snapX S115) (I.orI (I.snapX S116) Xb)) 10000 100 (2 * S117.f) S117.args S117.h S117.nx (I.endK S117) then true else false) = true := by kernel_rfl
theorem ok117 : I.SnapOk Tryz.prog 2 S117 := I.snap_of_run (I.orI_ok (I.snapX_ok ok115) (I.orI_ok (I.snapX_ok ok116) xb_ok)) r117
end Go.Proofs.YtdjpokckamlccaaGreatDoor
