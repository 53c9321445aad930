/- Texts on which the proof of this claim stands: Sg1b. -/
import Derived.Test.YtdjpokckamlccaaGreatDoorP8
import Derived.Test.YtdjpokckamlccaaGreatDoorP9
namespace Go.Proofs.YtdjpokckamlccaaGreatDoor
set_option maxRecDepth 1000000 in
theorem r1 : (bif I.callC Tryz.prog 2 Xb 10000 100 (2 * S1.f) S1.args S1.h S1.nx (I.endK S1) then true else false) = true := by kernel_rfl
theorem ok1 : I.SnapOk Tryz.prog 2 S1 := I.snap_of_run xb_ok r1
set_option maxRecDepth 1000000 in
theorem r5 : (bif I.callC Tryz.prog 2 Xb 10000 100 (2 * S5.f) S5.args S5.h S5.nx (I.endK S5) then true else false) = true := by kernel_rfl
theorem ok5 : I.SnapOk Tryz.prog 2 S5 := I.snap_of_run xb_ok r5
set_option maxRecDepth 1000000 in
theorem r9 : (bif I.callC Tryz.prog 2 Xb 10000 100 (2 * S9.f) S9.args S9.h S9.nx (I.endK S9) then true else false) = true := by kernel_rfl
theorem ok9 : I.SnapOk Tryz.prog 2 S9 := I.snap_of_run xb_ok r9
set_option maxRecDepth 1000000 in
theorem r13 : (bif I.callC Tryz.prog 2 Xb 10000 100 (2 * S13.f) S13.args S13.h S13.nx (I.endK S13) then true else false) = true := by kernel_rfl
theorem ok13 : I.SnapOk Tryz.prog 2 S13 := I.snap_of_run xb_ok r13
set_option maxRecDepth 1000000 in
theorem r17 : (bif I.callC Tryz.prog 2 Xb 10000 100 (2 * S17.f) S17.args S17.h S17.nx (I.endK S17) then true else false) = true := by kernel_rfl
theorem ok17 : I.SnapOk Tryz.prog 2 S17 := I.snap_of_run xb_ok r17
set_option maxRecDepth 1000000 in
theorem r21 : (bif I.callC Tryz.prog 2 Xb 10000 100 (2 * S21.f) S21.args S21.h S21.nx (I.endK S21) then true else false) = true := by kernel_rfl
theorem ok21 : I.SnapOk Tryz.prog 2 S21 := I.snap_of_run xb_ok r21
set_option maxRecDepth 1000000 in
theorem r27 : (bif I.callC Tryz.prog 2 Xb 10000 100 (2 * S27.f) S27.args S27.h S27.nx (I.endK S27) then true else false) = true := by kernel_rfl
theorem ok27 : I.SnapOk Tryz.prog 2 S27 := I.snap_of_run xb_ok r27
set_option maxRecDepth 1000000 in
theorem r31 : (bif I.callC Tryz.prog 2 Xb 10000 100 (2 * S31.f) S31.args S31.h S31.nx (I.endK S31) then true else false) = true := by kernel_rfl
theorem ok31 : I.SnapOk Tryz.prog 2 S31 := I.snap_of_run xb_ok r31
set_option maxRecDepth 1000000 in
theorem r35 : (bif I.callC Tryz.prog 2 Xb 10000 100 (2 * S35.f) S35.args S35.h S35.nx (I.endK S35) then true else false) = true := by kernel_rfl
theorem ok35 : I.SnapOk Tryz.prog 2 S35 := I.snap_of_run xb_ok r35
set_option maxRecDepth 1000000 in
theorem r39 : (bif I.callC Tryz.prog 2 Xb 10000 100 (2 * S39.f) S39.args S39.h S39.nx (I.endK S39) then true else false) = true := by kernel_rfl
theorem ok39 : I.SnapOk Tryz.prog 2 S39 := I.snap_of_run xb_ok r39
set_option maxRecDepth 1000000 in
theorem r43 : (bif I.callC Tryz.prog 2 Xb 10000 100 (2 * S43.f) S43.args S43.h S43.nx (I.endK S43) then true else false) = true := by kernel_rfl
theorem ok43 : I.SnapOk Tryz.prog 2 S43 := I.snap_of_run xb_ok r43
set_option maxRecDepth 1000000 in
theorem r47 : (bif I.callC Tryz.prog 2 Xb 10000 100 (2 * S47.f) S47.args S47.h S47.nx (I.endK S47) then true else false) = true := by kernel_rfl
theorem ok47 : I.SnapOk Tryz.prog 2 S47 := I.snap_of_run xb_ok r47
set_option maxRecDepth 1000000 in
theorem r53 : (bif I.callC Tryz.prog 2 Xb 10000 100 (2 * S53.f) S53.args S53.h S53.nx (I.endK S53) then true else false) = true := by kernel_rfl
theorem ok53 : I.SnapOk Tryz.prog 2 S53 := I.snap_of_run xb_ok r53
set_option maxRecDepth 1000000 in
theorem r57 : (bif I.callC Tryz.prog 2 Xb 10000 100 (2 * S57.f) S57.args S57.h S57.nx (I.endK S57) then true else false) = true := by kernel_rfl
theorem ok57 : I.SnapOk Tryz.prog 2 S57 := I.snap_of_run xb_ok r57
set_option maxRecDepth 1000000 in
theorem r61 : (bif I.callC Tryz.prog 2 Xb 10000 100 (2 * S61.f) S61.args S61.h S61.nx (I.endK S61) then true else false) = true := by kernel_rfl
theorem ok61 : I.SnapOk Tryz.prog 2 S61 := I.snap_of_run xb_ok r61
set_option maxRecDepth 1000000 in
theorem r65 : (bif I.callC Tryz.prog 2 Xb 10000 100 (2 * S65.f) S65.args S65.h S65.nx (I.endK S65) then true else false) = true := by kernel_rfl
theorem ok65 : I.SnapOk Tryz.prog 2 S65 := I.snap_of_run xb_ok r65
set_option maxRecDepth 1000000 in
theorem r69 : (bif I.callC Tryz.prog 2 Xb 10000 100 (2 * S69.f) S69.args S69.h S69.nx (I.endK S69) then true else false) = true := by kernel_rfl
theorem ok69 : I.SnapOk Tryz.prog 2 S69 := I.snap_of_run xb_ok r69
set_option maxRecDepth 1000000 in
theorem r73 : (bif I.callC Tryz.prog 2 Xb 10000 100 (2 * S73.f) S73.args S73.h S73.nx (I.endK S73) then true else false) = true := by kernel_rfl
theorem ok73 : I.SnapOk Tryz.prog 2 S73 := I.snap_of_run xb_ok r73
set_option maxRecDepth 1000000 in
theorem r77 : (bif I.callC Tryz.prog 2 Xb 10000 100 (2 * S77.f) S77.args S77.h S77.nx (I.endK S77) then true else false) = true := by kernel_rfl
theorem ok77 : I.SnapOk Tryz.prog 2 S77 := I.snap_of_run xb_ok r77
set_option maxRecDepth 1000000 in
theorem r84 : (bif I.callC Tryz.prog 2 Xb 10000 100 (2 * S84.f) S84.args S84.h S84.nx (I.endK S84) then true else false) = true := by kernel_rfl
theorem ok84 : I.SnapOk Tryz.prog 2 S84 := I.snap_of_run xb_ok r84
set_option maxRecDepth 1000000 in
theorem r89 : (bif I.callC Tryz.prog 2 Xb 10000 100 (2 * S89.f) S89.args S89.h S89.nx (I.endK S89) then true else false) = true := by kernel_rfl
theorem ok89 : I.SnapOk Tryz.prog 2 S89 := I.snap_of_run xb_ok r89
set_option maxRecDepth 1000000 in
theorem r94 : (bif I.callC Tryz.prog 2 Xb 10000 100 (2 * S94.f) S94.args S94.h S94.nx (I.endK S94) then true else false) = true := by kernel_rfl
theorem ok94 : I.SnapOk Tryz.prog 2 S94 := I.snap_of_run xb_ok r94
set_option maxRecDepth 1000000 in
theorem r98 : (bif I.callC Tryz.prog 2 Xb 10000 100 (2 * S98.f) S98.args S98.h S98.nx (I.endK S98) then true else false) = true := by kernel_rfl
theorem ok98 : I.SnapOk Tryz.prog 2 S98 := I.snap_of_run xb_ok r98
set_option maxRecDepth 1000000 in
theorem r102 : (bif I.callC Tryz.prog 2 Xb 10000 100 (2 * S102.f) S102.args S102.h S102.nx (I.endK S102) then true else false) = true := by kernel_rfl
theorem ok102 : I.SnapOk Tryz.prog 2 S102 := I.snap_of_run xb_ok r102
set_option maxRecDepth 1000000 in
theorem r106 : (bif I.callC Tryz.prog 2 Xb 10000 100 (2 * S106.f) S106.args S106.h S106.nx (I.endK S106) then true else false) = true := by kernel_rfl
theorem ok106 : I.SnapOk Tryz.prog 2 S106 := I.snap_of_run xb_ok r106
set_option maxRecDepth 1000000 in
theorem r110 : (bif I.callC Tryz.prog 2 Xb 10000 100 (2 * S110.f) S110.args S110.h S110.nx (I.endK S110) then true else false) = true := by kernel_rfl
theorem ok110 : I.SnapOk Tryz.prog 2 S110 := I.snap_of_run xb_ok r110
set_option maxRecDepth 1000000 in
theorem r114 : (bif I.callC Tryz.prog 2 Xb 10000 100 (2 * S114.f) S114.args S114.h S114.nx (I.endK S114) then true else false) = true := by kernel_rfl
theorem ok114 : I.SnapOk Tryz.prog 2 S114 := I.snap_of_run xb_ok r114
set_option maxRecDepth 1000000 in
theorem r121 : (bif I.callC Tryz.prog 2 Xb 10000 100 (2 * S121.f) S121.args S121.h S121.nx (I.endK S121) then true else false) = true := by kernel_rfl
theorem ok121 : I.SnapOk Tryz.prog 2 S121 := I.snap_of_run xb_ok r121
end Go.Proofs.YtdjpokckamlccaaGreatDoor
