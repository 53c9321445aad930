/- Texts on which the proof of this claim stands: Sg1d. -/
import Derived.Test.YtdjpokckamlccaaGreatDoorP8
import Derived.Test.YtdjpokckamlccaaGreatDoorP9
namespace Go.Proofs.YtdjpokckamlccaaGreatDoor
set_option maxRecDepth 1000000 in
theorem r3 : (bif I.callC Tryz.prog 2 Xb 10000 100 (2 * S3.f) S3.args S3.h S3.nx (I.endK S3) then true else false) = true := by kernel_rfl
theorem ok3 : I.SnapOk Tryz.prog 2 S3 := I.snap_of_run xb_ok r3
set_option maxRecDepth 1000000 in
theorem r7 : (bif I.callC Tryz.prog 2 Xb 10000 100 (2 * S7.f) S7.args S7.h S7.nx (I.endK S7) then true else false) = true := by kernel_rfl
theorem ok7 : I.SnapOk Tryz.prog 2 S7 := I.snap_of_run xb_ok r7
set_option maxRecDepth 1000000 in
theorem r11 : (bif I.callC Tryz.prog 2 Xb 10000 100 (2 * S11.f) S11.args S11.h S11.nx (I.endK S11) then true else false) = true := by kernel_rfl
theorem ok11 : I.SnapOk Tryz.prog 2 S11 := I.snap_of_run xb_ok r11
set_option maxRecDepth 1000000 in
theorem r15 : (bif I.callC Tryz.prog 2 Xb 10000 100 (2 * S15.f) S15.args S15.h S15.nx (I.endK S15) then true else false) = true := by kernel_rfl
theorem ok15 : I.SnapOk Tryz.prog 2 S15 := I.snap_of_run xb_ok r15
set_option maxRecDepth 1000000 in
theorem r19 : (bif I.callC Tryz.prog 2 Xb 10000 100 (2 * S19.f) S19.args S19.h S19.nx (I.endK S19) then true else false) = true := by kernel_rfl
theorem ok19 : I.SnapOk Tryz.prog 2 S19 := I.snap_of_run xb_ok r19
set_option maxRecDepth 1000000 in
theorem r23 : (bif I.callC Tryz.prog 2 Xb 10000 100 (2 * S23.f) S23.args S23.h S23.nx (I.endK S23) then true else false) = true := by kernel_rfl
theorem ok23 : I.SnapOk Tryz.prog 2 S23 := I.snap_of_run xb_ok r23
set_option maxRecDepth 1000000 in
theorem r29 : (bif I.callC Tryz.prog 2 Xb 10000 100 (2 * S29.f) S29.args S29.h S29.nx (I.endK S29) then true else false) = true := by kernel_rfl
theorem ok29 : I.SnapOk Tryz.prog 2 S29 := I.snap_of_run xb_ok r29
set_option maxRecDepth 1000000 in
theorem r33 : (bif I.callC Tryz.prog 2 Xb 10000 100 (2 * S33.f) S33.args S33.h S33.nx (I.endK S33) then true else false) = true := by kernel_rfl
theorem ok33 : I.SnapOk Tryz.prog 2 S33 := I.snap_of_run xb_ok r33
set_option maxRecDepth 1000000 in
theorem r37 : (bif I.callC Tryz.prog 2 Xb 10000 100 (2 * S37.f) S37.args S37.h S37.nx (I.endK S37) then true else false) = true := by kernel_rfl
theorem ok37 : I.SnapOk Tryz.prog 2 S37 := I.snap_of_run xb_ok r37
set_option maxRecDepth 1000000 in
theorem r41 : (bif I.callC Tryz.prog 2 Xb 10000 100 (2 * S41.f) S41.args S41.h S41.nx (I.endK S41) then true else false) = true := by kernel_rfl
theorem ok41 : I.SnapOk Tryz.prog 2 S41 := I.snap_of_run xb_ok r41
set_option maxRecDepth 1000000 in
theorem r45 : (bif I.callC Tryz.prog 2 Xb 10000 100 (2 * S45.f) S45.args S45.h S45.nx (I.endK S45) then true else false) = true := by kernel_rfl
theorem ok45 : I.SnapOk Tryz.prog 2 S45 := I.snap_of_run xb_ok r45
set_option maxRecDepth 1000000 in
theorem r49 : (bif I.callC Tryz.prog 2 Xb 10000 100 (2 * S49.f) S49.args S49.h S49.nx (I.endK S49) then true else false) = true := by kernel_rfl
theorem ok49 : I.SnapOk Tryz.prog 2 S49 := I.snap_of_run xb_ok r49
set_option maxRecDepth 1000000 in
theorem r55 : (bif I.callC Tryz.prog 2 Xb 10000 100 (2 * S55.f) S55.args S55.h S55.nx (I.endK S55) then true else false) = true := by kernel_rfl
theorem ok55 : I.SnapOk Tryz.prog 2 S55 := I.snap_of_run xb_ok r55
set_option maxRecDepth 1000000 in
theorem r59 : (bif I.callC Tryz.prog 2 Xb 10000 100 (2 * S59.f) S59.args S59.h S59.nx (I.endK S59) then true else false) = true := by kernel_rfl
theorem ok59 : I.SnapOk Tryz.prog 2 S59 := I.snap_of_run xb_ok r59
set_option maxRecDepth 1000000 in
theorem r63 : (bif I.callC Tryz.prog 2 Xb 10000 100 (2 * S63.f) S63.args S63.h S63.nx (I.endK S63) then true else false) = true := by kernel_rfl
theorem ok63 : I.SnapOk Tryz.prog 2 S63 := I.snap_of_run xb_ok r63
set_option maxRecDepth 1000000 in
theorem r67 : (bif I.callC Tryz.prog 2 Xb 10000 100 (2 * S67.f) S67.args S67.h S67.nx (I.endK S67) then true else false) = true := by kernel_rfl
theorem ok67 : I.SnapOk Tryz.prog 2 S67 := I.snap_of_run xb_ok r67
set_option maxRecDepth 1000000 in
theorem r71 : (bif I.callC Tryz.prog 2 Xb 10000 100 (2 * S71.f) S71.args S71.h S71.nx (I.endK S71) then true else false) = true := by kernel_rfl
theorem ok71 : I.SnapOk Tryz.prog 2 S71 := I.snap_of_run xb_ok r71
set_option maxRecDepth 1000000 in
theorem r75 : (bif I.callC Tryz.prog 2 Xb 10000 100 (2 * S75.f) S75.args S75.h S75.nx (I.endK S75) then true else false) = true := by kernel_rfl
theorem ok75 : I.SnapOk Tryz.prog 2 S75 := I.snap_of_run xb_ok r75
set_option maxRecDepth 1000000 in
theorem r81 : (bif I.callC Tryz.prog 2 Xb 10000 100 (2 * S81.f) S81.args S81.h S81.nx (I.endK S81) then true else false) = true := by kernel_rfl
theorem ok81 : I.SnapOk Tryz.prog 2 S81 := I.snap_of_run xb_ok r81
set_option maxRecDepth 1000000 in
theorem r87 : (bif I.callC Tryz.prog 2 Xb 10000 100 (2 * S87.f) S87.args S87.h S87.nx (I.endK S87) then true else false) = true := by kernel_rfl
theorem ok87 : I.SnapOk Tryz.prog 2 S87 := I.snap_of_run xb_ok r87
set_option maxRecDepth 1000000 in
theorem r92 : (bif I.callC Tryz.prog 2 Xb 10000 100 (2 * S92.f) S92.args S92.h S92.nx (I.endK S92) then true else false) = true := by kernel_rfl
theorem ok92 : I.SnapOk Tryz.prog 2 S92 := I.snap_of_run xb_ok r92
set_option maxRecDepth 1000000 in
theorem r96 : (bif I.callC Tryz.prog 2 Xb 10000 100 (2 * S96.f) S96.args S96.h S96.nx (I.endK S96) then true else false) = true := by kernel_rfl
theorem ok96 : I.SnapOk Tryz.prog 2 S96 := I.snap_of_run xb_ok r96
set_option maxRecDepth 1000000 in
theorem r100 : (bif I.callC Tryz.prog 2 Xb 10000 100 (2 * S100.f) S100.args S100.h S100.nx (I.endK S100) then true else false) = true := by kernel_rfl
theorem ok100 : I.SnapOk Tryz.prog 2 S100 := I.snap_of_run xb_ok r100
set_option maxRecDepth 1000000 in
theorem r104 : (bif I.callC Tryz.prog 2 Xb 10000 100 (2 * S104.f) S104.args S104.h S104.nx (I.endK S104) then true else false) = true := by kernel_rfl
theorem ok104 : I.SnapOk Tryz.prog 2 S104 := I.snap_of_run xb_ok r104
set_option maxRecDepth 1000000 in
theorem r108 : (bif I.callC Tryz.prog 2 Xb 10000 100 (2 * S108.f) S108.args S108.h S108.nx (I.endK S108) then true else false) = true := by kernel_rfl
theorem ok108 : I.SnapOk Tryz.prog 2 S108 := I.snap_of_run xb_ok r108
set_option maxRecDepth 1000000 in
theorem r112 : (bif I.callC Tryz.prog 2 Xb 10000 100 (2 * S112.f) S112.args S112.h S112.nx (I.endK S112) then true else false) = true := by kernel_rfl
theorem ok112 : I.SnapOk Tryz.prog 2 S112 := I.snap_of_run xb_ok r112
set_option maxRecDepth 1000000 in
theorem r118 : (bif I.callC Tryz.prog 2 Xb 10000 100 (2 * S118.f) S118.args S118.h S118.nx (I.endK S118) then true else false) = true := by kernel_rfl
theorem ok118 : I.SnapOk Tryz.prog 2 S118 := I.snap_of_run xb_ok r118
end Go.Proofs.YtdjpokckamlccaaGreatDoor
