/- Texts on which the proof of this claim stands: Sg1a. -/
import Derived.Test.YtdjpokckamlccaaGreatDoorP8
import Derived.Test.YtdjpokckamlccaaGreatDoorP9
namespace Go.Proofs.YtdjpokckamlccaaGreatDoor
set_option maxRecDepth 1000000 in
theorem r0 : (bif I.callC Tryz.prog 2 Xb 10000 100 (2 * S0.f) S0.args S0.h S0.nx (I.endK S0) then true else false) = true := by kernel_rfl
theorem ok0 : I.SnapOk Tryz.prog 2 S0 := I.snap_of_run xb_ok r0
set_option maxRecDepth 1000000 in
theorem r4 : (bif I.callC Tryz.prog 2 Xb 10000 100 (2 * S4.f) S4.args S4.h S4.nx (I.endK S4) then true else false) = true := by kernel_rfl
theorem ok4 : I.SnapOk Tryz.prog 2 S4 := I.snap_of_run xb_ok r4
set_option maxRecDepth 1000000 in
theorem r8 : (bif I.callC Tryz.prog 2 Xb 10000 100 (2 * S8.f) S8.args S8.h S8.nx (I.endK S8) then true else false) = true := by kernel_rfl
theorem ok8 : I.SnapOk Tryz.prog 2 S8 := I.snap_of_run xb_ok r8
set_option maxRecDepth 1000000 in
theorem r12 : (bif I.callC Tryz.prog 2 Xb 10000 100 (2 * S12.f) S12.args S12.h S12.nx (I.endK S12) then true else false) = true := by kernel_rfl
theorem ok12 : I.SnapOk Tryz.prog 2 S12 := I.snap_of_run xb_ok r12
set_option maxRecDepth 1000000 in
theorem r16 : (bif I.callC Tryz.prog 2 Xb 10000 100 (2 * S16.f) S16.args S16.h S16.nx (I.endK S16) then true else false) = true := by kernel_rfl
theorem ok16 : I.SnapOk Tryz.prog 2 S16 := I.snap_of_run xb_ok r16
set_option maxRecDepth 1000000 in
theorem r20 : (bif I.callC Tryz.prog 2 Xb 10000 100 (2 * S20.f) S20.args S20.h S20.nx (I.endK S20) then true else false) = true := by kernel_rfl
theorem ok20 : I.SnapOk Tryz.prog 2 S20 := I.snap_of_run xb_ok r20
set_option maxRecDepth 1000000 in
theorem r26 : (bif I.callC Tryz.prog 2 Xb 10000 100 (2 * S26.f) S26.args S26.h S26.nx (I.endK S26) then true else false) = true := by kernel_rfl
theorem ok26 : I.SnapOk Tryz.prog 2 S26 := I.snap_of_run xb_ok r26
set_option maxRecDepth 1000000 in
theorem r30 : (bif I.callC Tryz.prog 2 Xb 10000 100 (2 * S30.f) S30.args S30.h S30.nx (I.endK S30) then true else false) = true := by kernel_rfl
theorem ok30 : I.SnapOk Tryz.prog 2 S30 := I.snap_of_run xb_ok r30
set_option maxRecDepth 1000000 in
theorem r34 : (bif I.callC Tryz.prog 2 Xb 10000 100 (2 * S34.f) S34.args S34.h S34.nx (I.endK S34) then true else false) = true := by kernel_rfl
theorem ok34 : I.SnapOk Tryz.prog 2 S34 := I.snap_of_run xb_ok r34
set_option maxRecDepth 1000000 in
theorem r38 : (bif I.callC Tryz.prog 2 Xb 10000 100 (2 * S38.f) S38.args S38.h S38.nx (I.endK S38) then true else false) = true := by kernel_rfl
theorem ok38 : I.SnapOk Tryz.prog 2 S38 := I.snap_of_run xb_ok r38
set_option maxRecDepth 1000000 in
theorem r42 : (bif I.callC Tryz.prog 2 Xb 10000 100 (2 * S42.f) S42.args S42.h S42.nx (I.endK S42) then true else false) = true := by kernel_rfl
theorem ok42 : I.SnapOk Tryz.prog 2 S42 := I.snap_of_run xb_ok r42
set_option maxRecDepth 1000000 in
theorem r46 : (bif I.callC Tryz.prog 2 Xb 10000 100 (2 * S46.f) S46.args S46.h S46.nx (I.endK S46) then true else false) = true := by kernel_rfl
theorem ok46 : I.SnapOk Tryz.prog 2 S46 := I.snap_of_run xb_ok r46
set_option maxRecDepth 1000000 in
theorem r51 : (bif I.callC Tryz.prog 2 Xb 10000 100 (2 * S51.f) S51.args S51.h S51.nx (I.endK S51) then true else false) = true := by kernel_rfl
theorem ok51 : I.SnapOk Tryz.prog 2 S51 := I.snap_of_run xb_ok r51
set_option maxRecDepth 1000000 in
theorem r56 : (bif I.callC Tryz.prog 2 Xb 10000 100 (2 * S56.f) S56.args S56.h S56.nx (I.endK S56) then true else false) = true := by kernel_rfl
theorem ok56 : I.SnapOk Tryz.prog 2 S56 := I.snap_of_run xb_ok r56
set_option maxRecDepth 1000000 in
theorem r60 : (bif I.callC Tryz.prog 2 Xb 10000 100 (2 * S60.f) S60.args S60.h S60.nx (I.endK S60) then true else false) = true := by kernel_rfl
theorem ok60 : I.SnapOk Tryz.prog 2 S60 := I.snap_of_run xb_ok r60
set_option maxRecDepth 1000000 in
theorem r64 : (bif I.callC Tryz.prog 2 Xb 10000 100 (2 * S64.f) S64.args S64.h S64.nx (I.endK S64) then true else false) = true := by kernel_rfl
theorem ok64 : I.SnapOk Tryz.prog 2 S64 := I.snap_of_run xb_ok r64
set_option maxRecDepth 1000000 in
theorem r68 : (bif I.callC Tryz.prog 2 Xb 10000 100 (2 * S68.f) S68.args S68.h S68.nx (I.endK S68) then true else false) = true := by kernel_rfl
theorem ok68 : I.SnapOk Tryz.prog 2 S68 := I.snap_of_run xb_ok r68
set_option maxRecDepth 1000000 in
theorem r72 : (bif I.callC Tryz.prog 2 Xb 10000 100 (2 * S72.f) S72.args S72.h S72.nx (I.endK S72) then true else false) = true := by kernel_rfl
theorem ok72 : I.SnapOk Tryz.prog 2 S72 := I.snap_of_run xb_ok r72
set_option maxRecDepth 1000000 in
theorem r76 : (bif I.callC Tryz.prog 2 Xb 10000 100 (2 * S76.f) S76.args S76.h S76.nx (I.endK S76) then true else false) = true := by kernel_rfl
theorem ok76 : I.SnapOk Tryz.prog 2 S76 := I.snap_of_run xb_ok r76
set_option maxRecDepth 1000000 in
theorem r83 : (bif I.callC Tryz.prog 2 Xb 10000 100 (2 * S83.f) S83.args S83.h S83.nx (I.endK S83) then true else false) = true := by kernel_rfl
theorem ok83 : I.SnapOk Tryz.prog 2 S83 := I.snap_of_run xb_ok r83
set_option maxRecDepth 1000000 in
theorem r88 : (bif I.callC Tryz.prog 2 Xb 10000 100 (2 * S88.f) S88.args S88.h S88.nx (I.endK S88) then true else false) = true := by kernel_rfl
theorem ok88 : I.SnapOk Tryz.prog 2 S88 := I.snap_of_run xb_ok r88
set_option maxRecDepth 1000000 in
theorem r93 : (bif I.callC Tryz.prog 2 Xb 10000 100 (2 * S93.f) S93.args S93.h S93.nx (I.endK S93) then true else false) = true := by kernel_rfl
theorem ok93 : I.SnapOk Tryz.prog 2 S93 := I.snap_of_run xb_ok r93
set_option maxRecDepth 1000000 in
theorem r97 : (bif I.callC Tryz.prog 2 Xb 10000 100 (2 * S97.f) S97.args S97.h S97.nx (I.endK S97) then true else false) = true := by kernel_rfl
theorem ok97 : I.SnapOk Tryz.prog 2 S97 := I.snap_of_run xb_ok r97
set_option maxRecDepth 1000000 in
theorem r101 : (bif I.callC Tryz.prog 2 Xb 10000 100 (2 * S101.f) S101.args S101.h S101.nx (I.endK S101) then true else false) = true := by kernel_rfl
theorem ok101 : I.SnapOk Tryz.prog 2 S101 := I.snap_of_run xb_ok r101
set_option maxRecDepth 1000000 in
theorem r105 : (bif I.callC Tryz.prog 2 Xb 10000 100 (2 * S105.f) S105.args S105.h S105.nx (I.endK S105) then true else false) = true := by kernel_rfl
theorem ok105 : I.SnapOk Tryz.prog 2 S105 := I.snap_of_run xb_ok r105
set_option maxRecDepth 1000000 in
theorem r109 : (bif I.callC Tryz.prog 2 Xb 10000 100 (2 * S109.f) S109.args S109.h S109.nx (I.endK S109) then true else false) = true := by kernel_rfl
theorem ok109 : I.SnapOk Tryz.prog 2 S109 := I.snap_of_run xb_ok r109
set_option maxRecDepth 1000000 in
theorem r113 : (bif I.callC Tryz.prog 2 Xb 10000 100 (2 * S113.f) S113.args S113.h S113.nx (I.endK S113) then true else false) = true := by kernel_rfl
theorem ok113 : I.SnapOk Tryz.prog 2 S113 := I.snap_of_run xb_ok r113
set_option maxRecDepth 1000000 in
theorem r120 : (bif I.callC Tryz.prog 2 Xb 10000 100 (2 * S120.f) S120.args S120.h S120.nx (I.endK S120) then true else false) = true := by kernel_rfl
theorem ok120 : I.SnapOk Tryz.prog 2 S120 := I.snap_of_run xb_ok r120
end Go.Proofs.YtdjpokckamlccaaGreatDoor
