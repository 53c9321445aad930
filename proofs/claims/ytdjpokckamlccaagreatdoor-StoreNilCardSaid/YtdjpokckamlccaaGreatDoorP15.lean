/- Texts on which the proof of this claim stands: Sg2b. -/
import Derived.Test.YtdjpokckamlccaaGreatDoorP8
import Derived.Test.YtdjpokckamlccaaGreatDoorP9
import Derived.Test.YtdjpokckamlccaaGreatDoorP10
import Derived.Test.YtdjpokckamlccaaGreatDoorP11
import Derived.Test.YtdjpokckamlccaaGreatDoorP12
import Derived.Test.YtdjpokckamlccaaGreatDoorP13
namespace Go.Proofs.YtdjpokckamlccaaGreatDoor
set_option maxRecDepth 1000000 in
theorem r50 : (bif I.callC Tryz.prog 2 (I.orI (I.snapX S26) (I.orI (I.snapX S27) (I.orI (I.snapX S28) (I.orI (I.snapX S29) (I.orI (I.snapX S30) (I.orI (I.snapX S31) (I.orI (I.snapX S32) (I.orI (I.snapX S33) (I.orI (I.snapX S34) (I.orI (I.snapX S35) (I.orI (I.snapX S36) (I.orI (I.snapX S37) (I.orI (I.snapX S38) (I.orI (I.snapX S39) (I.orI (I.snapX S40) (I.orI (I.snapX S41) (I.orI (I.snapX S42) (I.orI (I.snapX S43) (I.orI (I.snapX S44) (I.orI (I.snapX S45) (I.orI (I.snapX S46) (I.orI (I.snapX S47) (I.orI (I.snapX S48) (I.orI (I.snapX S49) Xb)))))))))))))))))))))))) 10000 100 (2 * S50.f) S50.args S50.h S50.nx (I.endK S50) then true else false) = true := by kernel_rfl
theorem ok50 : I.SnapOk Tryz.prog 2 S50 := I.snap_of_run (I.orI_ok (I.snapX_ok ok26) (I.orI_ok (I.snapX_ok ok27) (I.orI_ok (I.snapX_ok ok28) (I.orI_ok (I.snapX_ok ok29) (I.orI_ok (I.snapX_ok ok30) (I.orI_ok (I.snapX_ok ok31) (I.orI_ok (I.snapX_ok ok32) (I.orI_ok (I.snapX_ok ok33) (I.orI_ok (I.snapX_ok ok34) (I.orI_ok (I.snapX_ok ok35) (I.orI_ok (I.snapX_ok ok36) (I.orI_ok (I.snapX_ok ok37) (I.orI_ok (I.snapX_ok ok38) (I.orI_ok (I.snapX_ok ok39) (I.orI_ok (I.snapX_ok ok40) (I.orI_ok (I.snapX_ok ok41) (I.orI_ok (I.snapX_ok ok42) (I.orI_ok (I.snapX_ok ok43) (I.orI_ok (I.snapX_ok ok44) (I.orI_ok (I.snapX_ok ok45) (I.orI_ok (I.snapX_ok ok46) (I.orI_ok (I.snapX_ok ok47) (I.orI_ok (I.snapX_ok ok48) (I.orI_ok (I.snapX_ok ok49) xb_ok)))))))))))))))))))))))) r50
set_option maxRecDepth 1000000 in
theorem r78 : (bif I.callC Tryz.prog 2 (I.orI (I.snapX S54) (I.orI (I.snapX S55) (I.orI (I.snapX S56) (I.orI (I.snapX S57) (I.orI (I.snapX S58) (I.orI (I.snapX S59) (I.orI (I.snapX S60) (I.orI (I.snapX S61) (I.orI (I.snapX S62) (I.orI (I.snapX S63) (I.orI (I.snapX S64) (I.orI (I.snapX S65) (I.orI (I.snapX S66) (I.orI (I.snapX S67) (I.orI (I.snapX S68) (I.orI (I.snapX S69) (I.orI (I.snapX S70) (I.orI (I.snapX S71) (I.orI (I.snapX S72) (I.orI (I.snapX S73) (I.orI (I.snapX S74) (I.orI (I.snapX S75) (I.orI (I.snapX S76) (I.orI (I.snapX S77) Xb)))))))))))))))))))))))) 10000 100 (2 * S78.f) S78.args S78.h S78.nx (I.endK S78) then true else false) = true := by kernel_rfl
theorem ok78 : I.SnapOk Tryz.prog 2 S78 := I.snap_of_run (I.orI_ok (I.snapX_ok ok54) (I.orI_ok (I.snapX_ok ok55) (I.orI_ok (I.snapX_ok ok56) (I.orI_ok (I.snapX_ok ok57) (I.orI_ok (I.snapX_ok ok58) (I.orI_ok (I.snapX_ok ok59) (I.orI_ok (I.snapX_ok ok60) (I.orI_ok (I.snapX_ok ok61) (I.orI_ok (I.snapX_ok ok62) (I.orI_ok (I.snapX_ok ok63) (I.orI_ok (I.snapX_ok ok64) (I.orI_ok (I.snapX_ok ok65) (I.orI_ok (I.snapX_ok ok66) (I.orI_ok (I.snapX_ok ok67) (I.orI_ok (I.snapX_ok ok68) (I.orI_ok (I.snapX_ok ok69) (I.orI_ok (I.snapX_ok ok70) (I.orI_ok (I.snapX_ok ok71) (I.orI_ok (I.snapX_ok ok72) (I.orI_ok (I.snapX_ok ok73) (I.orI_ok (I.snapX_ok ok74) (I.orI_ok (I.snapX_ok ok75) (I.orI_ok (I.snapX_ok ok76) (I.orI_ok (I.snapX_ok ok77) xb_ok)))))))))))))))))))))))) r78
set_option maxRecDepth 1000000 in
theorem r90 : (bif I.callC Tryz.prog 2 (I.orI (I.snapX S87) (I.orI (I.snapX S88) (I.orI (I.snapX S89) Xb))) 10000 100 (2 * S90.f) S90.args S90.h S90.nx (I.endK S90) then true else false) = true := by kernel_rfl
theorem ok90 : I.SnapOk Tryz.prog 2 S90 := I.snap_of_run (I.orI_ok (I.snapX_ok ok87) (I.orI_ok (I.snapX_ok ok88) (I.orI_ok (I.snapX_ok ok89) xb_ok))) r90
set_option maxRecDepth 1000000 in
theorem r123 : (bif I.callC Tryz.prog 2 (I.orI (I.snapX S120) (I.orI (I.snapX S121) (I.orI (I.snapX S122) Xb))) 10000 100 (2 * S123.f) S123.args S123.h S123.nx (I.endK S123) then true else false) = true := by kernel_rfl
theorem ok123 : I.SnapOk Tryz.prog 2 S123 := I.snap_of_run (I.orI_ok (I.snapX_ok ok120) (I.orI_ok (I.snapX_ok ok121) (I.orI_ok (I.snapX_ok ok122) xb_ok))) r123
end Go.Proofs.YtdjpokckamlccaaGreatDoor
