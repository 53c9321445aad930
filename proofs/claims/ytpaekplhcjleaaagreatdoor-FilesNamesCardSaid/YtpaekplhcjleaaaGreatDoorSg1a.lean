/- Parts of a closed run: each ends as its snapshot says. -/
import Derived.Test.YtpaekplhcjleaaaGreatDoorXb
import Derived.Test.YtpaekplhcjleaaaGreatDoorSn0
namespace Go.Proofs.YtpaekplhcjleaaaGreatDoor
set_option maxRecDepth 1000000 in
theorem r0 : (bif I.callC Tryz.prog 2 Xb 10000 100 (2 * S0.f) S0.args S0.h S0.nx (I.endK S0) then true else false) = true := by kernel_rfl
theorem ok0 : I.SnapOk Tryz.prog 2 S0 := I.snap_of_run xb_ok r0
set_option maxRecDepth 1000000 in
theorem r3 : (bif I.callC Tryz.prog 2 Xb 10000 100 (2 * S3.f) S3.args S3.h S3.nx (I.endK S3) then true else false) = true := by kernel_rfl
theorem ok3 : I.SnapOk Tryz.prog 2 S3 := I.snap_of_run xb_ok r3
set_option maxRecDepth 1000000 in
theorem r6 : (bif I.callC Tryz.prog 2 Xb 10000 100 (2 * S6.f) S6.args S6.h S6.nx (I.endK S6) then true else false) = true := by kernel_rfl
theorem ok6 : I.SnapOk Tryz.prog 2 S6 := I.snap_of_run xb_ok r6
set_option maxRecDepth 1000000 in
theorem r9 : (bif I.callC Tryz.prog 2 Xb 10000 100 (2 * S9.f) S9.args S9.h S9.nx (I.endK S9) then true else false) = true := by kernel_rfl
theorem ok9 : I.SnapOk Tryz.prog 2 S9 := I.snap_of_run xb_ok r9
set_option maxRecDepth 1000000 in
theorem r12 : (bif I.callC Tryz.prog 2 Xb 10000 100 (2 * S12.f) S12.args S12.h S12.nx (I.endK S12) then true else false) = true := by kernel_rfl
theorem ok12 : I.SnapOk Tryz.prog 2 S12 := I.snap_of_run xb_ok r12
set_option maxRecDepth 1000000 in
theorem r15 : (bif I.callC Tryz.prog 2 Xb 10000 100 (2 * S15.f) S15.args S15.h S15.nx (I.endK S15) then true else false) = true := by kernel_rfl
theorem ok15 : I.SnapOk Tryz.prog 2 S15 := I.snap_of_run xb_ok r15
set_option maxRecDepth 1000000 in
theorem r18 : (bif I.callC Tryz.prog 2 Xb 10000 100 (2 * S18.f) S18.args S18.h S18.nx (I.endK S18) then true else false) = true := by kernel_rfl
theorem ok18 : I.SnapOk Tryz.prog 2 S18 := I.snap_of_run xb_ok r18
set_option maxRecDepth 1000000 in
theorem r21 : (bif I.callC Tryz.prog 2 Xb 10000 100 (2 * S21.f) S21.args S21.h S21.nx (I.endK S21) then true else false) = true := by kernel_rfl
theorem ok21 : I.SnapOk Tryz.prog 2 S21 := I.snap_of_run xb_ok r21
set_option maxRecDepth 1000000 in
theorem r24 : (bif I.callC Tryz.prog 2 Xb 10000 100 (2 * S24.f) S24.args S24.h S24.nx (I.endK S24) then true else false) = true := by kernel_rfl
theorem ok24 : I.SnapOk Tryz.prog 2 S24 := I.snap_of_run xb_ok r24
set_option maxRecDepth 1000000 in
theorem r28 : (bif I.callC Tryz.prog 2 Xb 10000 100 (2 * S28.f) S28.args S28.h S28.nx (I.endK S28) then true else false) = true := by kernel_rfl
theorem ok28 : I.SnapOk Tryz.prog 2 S28 := I.snap_of_run xb_ok r28
set_option maxRecDepth 1000000 in
theorem r31 : (bif I.callC Tryz.prog 2 Xb 10000 100 (2 * S31.f) S31.args S31.h S31.nx (I.endK S31) then true else false) = true := by kernel_rfl
theorem ok31 : I.SnapOk Tryz.prog 2 S31 := I.snap_of_run xb_ok r31
set_option maxRecDepth 1000000 in
theorem r37 : (bif I.callC Tryz.prog 2 Xb 10000 100 (2 * S37.f) S37.args S37.h S37.nx (I.endK S37) then true else false) = true := by kernel_rfl
theorem ok37 : I.SnapOk Tryz.prog 2 S37 := I.snap_of_run xb_ok r37
set_option maxRecDepth 1000000 in
theorem r40 : (bif I.callC Tryz.prog 2 Xb 10000 100 (2 * S40.f) S40.args S40.h S40.nx (I.endK S40) then true else false) = true := by kernel_rfl
theorem ok40 : I.SnapOk Tryz.prog 2 S40 := I.snap_of_run xb_ok r40
set_option maxRecDepth 1000000 in
theorem r43 : (bif I.callC Tryz.prog 2 Xb 10000 100 (2 * S43.f) S43.args S43.h S43.nx (I.endK S43) then true else false) = true := by kernel_rfl
theorem ok43 : I.SnapOk Tryz.prog 2 S43 := I.snap_of_run xb_ok r43
set_option maxRecDepth 1000000 in
theorem r46 : (bif I.callC Tryz.prog 2 Xb 10000 100 (2 * S46.f) S46.args S46.h S46.nx (I.endK S46) then true else false) = true := by kernel_rfl
theorem ok46 : I.SnapOk Tryz.prog 2 S46 := I.snap_of_run xb_ok r46
set_option maxRecDepth 1000000 in
theorem r49 : (bif I.callC Tryz.prog 2 Xb 10000 100 (2 * S49.f) S49.args S49.h S49.nx (I.endK S49) then true else false) = true := by kernel_rfl
theorem ok49 : I.SnapOk Tryz.prog 2 S49 := I.snap_of_run xb_ok r49
set_option maxRecDepth 1000000 in
theorem r52 : (bif I.callC Tryz.prog 2 Xb 10000 100 (2 * S52.f) S52.args S52.h S52.nx (I.endK S52) then true else false) = true := by kernel_rfl
theorem ok52 : I.SnapOk Tryz.prog 2 S52 := I.snap_of_run xb_ok r52
set_option maxRecDepth 1000000 in
theorem r55 : (bif I.callC Tryz.prog 2 Xb 10000 100 (2 * S55.f) S55.args S55.h S55.nx (I.endK S55) then true else false) = true := by kernel_rfl
theorem ok55 : I.SnapOk Tryz.prog 2 S55 := I.snap_of_run xb_ok r55
set_option maxRecDepth 1000000 in
theorem r58 : (bif I.callC Tryz.prog 2 Xb 10000 100 (2 * S58.f) S58.args S58.h S58.nx (I.endK S58) then true else false) = true := by kernel_rfl
theorem ok58 : I.SnapOk Tryz.prog 2 S58 := I.snap_of_run xb_ok r58
set_option maxRecDepth 1000000 in
theorem r61 : (bif I.callC Tryz.prog 2 Xb 10000 100 (2 * S61.f) S61.args S61.h S61.nx (I.endK S61) then true else false) = true := by kernel_rfl
theorem ok61 : I.SnapOk Tryz.prog 2 S61 := I.snap_of_run xb_ok r61
set_option maxRecDepth 1000000 in
theorem r65 : (bif I.callC Tryz.prog 2 Xb 10000 100 (2 * S65.f) S65.args S65.h S65.nx (I.endK S65) then true else false) = true := by kernel_rfl
theorem ok65 : I.SnapOk Tryz.prog 2 S65 := I.snap_of_run xb_ok r65
set_option maxRecDepth 1000000 in
theorem r68 : (bif I.callC Tryz.prog 2 Xb 10000 100 (2 * S68.f) S68.args S68.h S68.nx (I.endK S68) then true else false) = true := by kernel_rfl
theorem ok68 : I.SnapOk Tryz.prog 2 S68 := I.snap_of_run xb_ok r68
end Go.Proofs.YtpaekplhcjleaaaGreatDoor
