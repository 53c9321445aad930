/- Texts on which the proof of this claim stands: Sg2a. -/
import Derived.Test.YtdjpokckamlccaaGreatDoorP8
import Derived.Test.YtdjpokckamlccaaGreatDoorP9
import Derived.Test.YtdjpokckamlccaaGreatDoorP10
import Derived.Test.YtdjpokckamlccaaGreatDoorP11
import Derived.Test.YtdjpokckamlccaaGreatDoorP12
import Derived.Test.YtdjpokckamlccaaGreatDoorP13
namespace Go.Proofs.YtdjpokckamlccaaGreatDoor
set_option maxRecDepth 1000000 in
theorem r24 : (bif I.callC Tryz.prog 2 (I.orI (I.snapX S0) (I.orI (I.snapX S1) (I.orI (I.snapX S2) (I.orI (I.snapX S3) (I.orI (I.snapX S4) (I.orI (I.snapX S5) (I.orI (I.snapX S6) (I.orI (I.snapX S7) (I.orI (I.snapX S8) (I.orI (I.snapX S9) (I.orI (I.snapX S10) (I.orI (I.snapX S11) (I.orI (I.snapX S12) (I.orI (I.snapX S13) (I.orI (I.snapX S14) (I.orI (I.snapX S15) (I.orI (I.snapX S16) (I.orI (I.snapX S17) (I.orI (I.snapX S18) (I.orI (I.snapX S19) (I.orI (I.snapX S20) (I.orI (I.snapX S21) (I.orI (I.snapX S22) (I.orI (I.snapX S23) Xb)))))))))))))))))))))))) 10000 100 (2 * S24.f) S24.args S24.h S24.nx (I.endK S24) then true else false) = true := by kernel_rfl
theorem ok24 : I.SnapOk Tryz.prog 2 S24 := I.snap_of_run (I.orI_ok (I.snapX_ok ok0) (I.orI_ok (I.snapX_ok ok1) (I.orI_ok (I.snapX_ok ok2) (I.orI_ok (I.snapX_ok ok3) (I.orI_ok (I.snapX_ok ok4) (I.orI_ok (I.snapX_ok ok5) (I.orI_ok (I.snapX_ok ok6) (I.orI_ok (I.snapX_ok ok7) (I.orI_ok (I.snapX_ok ok8) (I.orI_ok (I.snapX_ok ok9) (I.orI_ok (I.snapX_ok ok10) (I.orI_ok (I.snapX_ok ok11) (I.orI_ok (I.snapX_ok ok12) (I.orI_ok (I.snapX_ok ok13) (I.orI_ok (I.snapX_ok ok14) (I.orI_ok (I.snapX_ok ok15) (I.orI_ok (I.snapX_ok ok16) (I.orI_ok (I.snapX_ok ok17) (I.orI_ok (I.snapX_ok ok18) (I.orI_ok (I.snapX_ok ok19) (I.orI_ok (I.snapX_ok ok20) (I.orI_ok (I.snapX_ok ok21) (I.orI_ok (I.snapX_ok ok22) (I.orI_ok (I.snapX_ok ok23) xb_ok)))))))))))))))))))))))) r24
set_option maxRecDepth 1000000 in
theorem r52 : (bif I.callC Tryz.prog 2 (I.orI (I.snapX S51) Xb) 10000 100 (2 * S52.f) S52.args S52.h S52.nx (I.endK S52) then true else false) = true := by kernel_rfl
theorem ok52 : I.SnapOk Tryz.prog 2 S52 := I.snap_of_run (I.orI_ok (I.snapX_ok ok51) xb_ok) r52
set_option maxRecDepth 1000000 in
theorem r85 : (bif I.callC Tryz.prog 2 (I.orI (I.snapX S83) (I.orI (I.snapX S84) Xb)) 10000 100 (2 * S85.f) S85.args S85.h S85.nx (I.endK S85) then true else false) = true := by kernel_rfl
theorem ok85 : I.SnapOk Tryz.prog 2 S85 := I.snap_of_run (I.orI_ok (I.snapX_ok ok83) (I.orI_ok (I.snapX_ok ok84) xb_ok)) r85
set_option maxRecDepth 1000000 in
theorem r115 : (bif I.callC Tryz.prog 2 (I.orI (I.snapX S91) (I.orI (I.snapX S92) (I.orI (I.snapX S93) (I.orI (I.snapX S94) (I.orI (I.snapX S95) (I.orI (I.snapX S96) (I.orI (I.snapX S97) (I.orI (I.snapX S98) (I.orI (I.snapX S99) (I.orI (I.snapX S100) (I.orI (I.snapX S101) (I.orI (I.snapX S102) (I.orI (I.snapX S103) (I.orI (I.snapX S104) (I.orI (I.snapX S105) (I.orI (I.snapX S106) (I.orI (I.snapX S107) (I.orI (I.snapX S108) (I.orI (I.snapX S109) (I.orI (I.snapX S110) (I.orI (I.snapX S111) (I.orI (I.snapX S112) (I.orI (I.snapX S113) (I.orI (I.snapX S114) Xb)))))))))))))))))))))))) 10000 100 (2 * S115.f) S115.args S115.h S115.nx (I.endK S115) then true else false) = true := by kernel_rfl
theorem ok115 : I.SnapOk Tryz.prog 2 S115 := I.snap_of_run (I.orI_ok (I.snapX_ok ok91) (I.orI_ok (I.snapX_ok ok92) (I.orI_ok (I.snapX_ok ok93) (I.orI_ok (I.snapX_ok ok94) (I.orI_ok (I.snapX_ok ok95) (I.orI_ok (I.snapX_ok ok96) (I.orI_ok (I.snapX_ok ok97) (I.orI_ok (I.snapX_ok ok98) (I.orI_ok (I.snapX_ok ok99) (I.orI_ok (I.snapX_ok ok100) (I.orI_ok (I.snapX_ok ok101) (I.orI_ok (I.snapX_ok ok102) (I.orI_ok (I.snapX_ok ok103) (I.orI_ok (I.snapX_ok ok104) (I.orI_ok (I.snapX_ok ok105) (I.orI_ok (I.snapX_ok ok106) (I.orI_ok (I.snapX_ok ok107) (I.orI_ok (I.snapX_ok ok108) (I.orI_ok (I.snapX_ok ok109) (I.orI_ok (I.snapX_ok ok110) (I.orI_ok (I.snapX_ok ok111) (I.orI_ok (I.snapX_ok ok112) (I.orI_ok (I.snapX_ok ok113) (I.orI_ok (I.snapX_ok ok114) xb_ok)))))))))))))))))))))))) r115
end Go.Proofs.YtdjpokckamlccaaGreatDoor
