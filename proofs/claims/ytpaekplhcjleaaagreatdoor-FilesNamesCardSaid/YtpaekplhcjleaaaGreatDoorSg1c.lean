/- Parts of a closed run: each ends as its snapshot says. -/
import Derived.Test.YtpaekplhcjleaaaGreatDoorXb
import Derived.Test.YtpaekplhcjleaaaGreatDoorSn0
namespace Go.Proofs.YtpaekplhcjleaaaGreatDoor
set_option maxRecDepth 1000000 in
theorem r2 : (bif I.callC Tryz.prog 2 Xb 10000 100 (2 * S2.f) S2.args S2.h S2.nx (I.endK S2) then true else false) = true := by kernel_rfl
theorem ok2 : I.SnapOk Tryz.prog 2 S2 := I.snap_of_run xb_ok r2
set_option maxRecDepth 1000000 in
theorem r5 : (bif I.callC Tryz.prog 2 Xb 10000 100 (2 * S5.f) S5.args S5.h S5.nx (I.endK S5) then true else false) = true := by kernel_rfl
theorem ok5 : I.SnapOk Tryz.prog 2 S5 := I.snap_of_run xb_ok r5
set_option maxRecDepth 1000000 in
theorem r8 : (bif I.callC Tryz.prog 2 Xb 10000 100 (2 * S8.f) S8.args S8.h S8.nx (I.endK S8) then true else false) = true := by kernel_rfl
theorem ok8 : I.SnapOk Tryz.prog 2 S8 := I.snap_of_run xb_ok r8
set_option maxRecDepth 1000000 in
theorem r11 : (bif I.callC Tryz.prog 2 Xb 10000 100 (2 * S11.f) S11.args S11.h S11.nx (I.endK S11) then true else false) = true := by kernel_rfl
theorem ok11 : I.SnapOk Tryz.prog 2 S11 := I.snap_of_run xb_ok r11
set_option maxRecDepth 1000000 in
theorem r14 : (bif I.callC Tryz.prog 2 Xb 10000 100 (2 * S14.f) S14.args S14.h S14.nx (I.endK S14) then true else false) = true := by kernel_rfl
theorem ok14 : I.SnapOk Tryz.prog 2 S14 := I.snap_of_run xb_ok r14
set_option maxRecDepth 1000000 in
theorem r17 : (bif I.callC Tryz.prog 2 Xb 10000 100 (2 * S17.f) S17.args S17.h S17.nx (I.endK S17) then true else false) = true := by kernel_rfl
theorem ok17 : I.SnapOk Tryz.prog 2 S17 := I.snap_of_run xb_ok r17
set_option maxRecDepth 1000000 in
theorem r20 : (bif I.callC Tryz.prog 2 Xb 10000 100 (2 * S20.f) S20.args S20.h S20.nx (I.endK S20) then true else false) = true := by kernel_rfl
theorem ok20 : I.SnapOk Tryz.prog 2 S20 := I.snap_of_run xb_ok r20
set_option maxRecDepth 1000000 in
theorem r23 : (bif I.callC Tryz.prog 2 Xb 10000 100 (2 * S23.f) S23.args S23.h S23.nx (I.endK S23) then true else false) = true := by kernel_rfl
theorem ok23 : I.SnapOk Tryz.prog 2 S23 := I.snap_of_run xb_ok r23
set_option maxRecDepth 1000000 in
theorem r27 : (bif I.callC Tryz.prog 2 Xb 10000 100 (2 * S27.f) S27.args S27.h S27.nx (I.endK S27) then true else false) = true := by kernel_rfl
theorem ok27 : I.SnapOk Tryz.prog 2 S27 := I.snap_of_run xb_ok r27
set_option maxRecDepth 1000000 in
theorem r30 : (bif I.callC Tryz.prog 2 Xb 10000 100 (2 * S30.f) S30.args S30.h S30.nx (I.endK S30) then true else false) = true := by kernel_rfl
theorem ok30 : I.SnapOk Tryz.prog 2 S30 := I.snap_of_run xb_ok r30
set_option maxRecDepth 1000000 in
theorem r36 : (bif I.callC Tryz.prog 2 Xb 10000 100 (2 * S36.f) S36.args S36.h S36.nx (I.endK S36) then true else false) = true := by kernel_rfl
theorem ok36 : I.SnapOk Tryz.prog 2 S36 := I.snap_of_run xb_ok r36
set_option maxRecDepth 1000000 in
theorem r39 : (bif I.callC Tryz.prog 2 Xb 10000 100 (2 * S39.f) S39.args S39.h S39.nx (I.endK S39) then true else false) = true := by kernel_rfl
theorem ok39 : I.SnapOk Tryz.prog 2 S39 := I.snap_of_run xb_ok r39
set_option maxRecDepth 1000000 in
theorem r42 : (bif I.callC Tryz.prog 2 Xb 10000 100 (2 * S42.f) S42.args S42.h S42.nx (I.endK S42) then true else false) = true := by kernel_rfl
theorem ok42 : I.SnapOk Tryz.prog 2 S42 := I.snap_of_run xb_ok r42
set_option maxRecDepth 1000000 in
theorem r45 : (bif I.callC Tryz.prog 2 Xb 10000 100 (2 * S45.f) S45.args S45.h S45.nx (I.endK S45) then true else false) = true := by kernel_rfl
theorem ok45 : I.SnapOk Tryz.prog 2 S45 := I.snap_of_run xb_ok r45
set_option maxRecDepth 1000000 in
theorem r48 : (bif I.callC Tryz.prog 2 Xb 10000 100 (2 * S48.f) S48.args S48.h S48.nx (I.endK S48) then true else false) = true := by kernel_rfl
theorem ok48 : I.SnapOk Tryz.prog 2 S48 := I.snap_of_run xb_ok r48
set_option maxRecDepth 1000000 in
theorem r51 : (bif I.callC Tryz.prog 2 Xb 10000 100 (2 * S51.f) S51.args S51.h S51.nx (I.endK S51) then true else false) = true := by kernel_rfl
theorem ok51 : I.SnapOk Tryz.prog 2 S51 := I.snap_of_run xb_ok r51
set_option maxRecDepth 1000000 in
theorem r54 : (bif I.callC Tryz.prog 2 Xb 10000 100 (2 * S54.f) S54.args S54.h S54.nx (I.endK S54) then true else false) = true := by kernel_rfl
theorem ok54 : I.SnapOk Tryz.prog 2 S54 := I.snap_of_run xb_ok r54
set_option maxRecDepth 1000000 in
theorem r57 : (bif I.callC Tryz.prog 2 Xb 10000 100 (2 * S57.f) S57.args S57.h S57.nx (I.endK S57) then true else false) = true := by kernel_rfl
theorem ok57 : I.SnapOk Tryz.prog 2 S57 := I.snap_of_run xb_ok r57
set_option maxRecDepth 1000000 in
theorem r60 : (bif I.callC Tryz.prog 2 Xb 10000 100 (2 * S60.f) S60.args S60.h S60.nx (I.endK S60) then true else false) = true := by kernel_rfl
theorem ok60 : I.SnapOk Tryz.prog 2 S60 := I.snap_of_run xb_ok r60
set_option maxRecDepth 1000000 in
theorem r64 : (bif I.callC Tryz.prog 2 Xb 10000 100 (2 * S64.f) S64.args S64.h S64.nx (I.endK S64) then true else false) = true := by kernel_rfl
theorem ok64 : I.SnapOk Tryz.prog 2 S64 := I.snap_of_run xb_ok r64
set_option maxRecDepth 1000000 in
theorem r67 : (bif I.callC Tryz.prog 2 Xb 10000 100 (2 * S67.f) S67.args S67.h S67.nx (I.endK S67) then true else false) = true := by kernel_rfl
theorem ok67 : I.SnapOk Tryz.prog 2 S67 := I.snap_of_run xb_ok r67
end Go.Proofs.YtpaekplhcjleaaaGreatDoor
