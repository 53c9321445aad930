/- Texts on which the proof of this claim stands: Sg1c. -/
import Derived.Test.YtdjpokckamlccaaGreatDoorP8
import Derived.Test.YtdjpokckamlccaaGreatDoorP9
namespace Go.Proofs.YtdjpokckamlccaaGreatDoor
set_option maxRecDepth 1000000 in
theorem r2 : (bif I.callC Tryz.prog 2 Xb 10000 100 (2 * S2.f) S2.args S2.h S2.nx (I.endK S2) then true else false) = true := by kernel_rfl
theorem ok2 : I.SnapOk Tryz.prog 2 S2 := I.snap_of_run xb_ok r2
set_option maxRecDepth 1000000 in
theorem r6 : (bif I.callC Tryz.prog 2 Xb 10000 100 (2 * S6.f) S6.args S6.h S6.nx (I.endK S6) then true else false) = true := by kernel_rfl
theorem ok6 : I.SnapOk Tryz.prog 2 S6 := I.snap_of_run xb_ok r6
set_option maxRecDepth 1000000 in
theorem r10 : (bif I.callC Tryz.prog 2 Xb 10000 100 (2 * S10.f) S10.args S10.h S10.nx (I.endK S10) then true else false) = true := by kernel_rfl
theorem ok10 : I.SnapOk Tryz.prog 2 S10 := I.snap_of_run xb_ok r10
set_option maxRecDepth 1000000 in
theorem r14 : (bif I.callC Tryz.prog 2 Xb 10000 100 (2 * S14.f) S14.args S14.h S14.nx (I.endK S14) then true else false) = true := by kernel_rfl
theorem ok14 : I.SnapOk Tryz.prog 2 S14 := I.snap_of_run xb_ok r14
set_option maxRecDepth 1000000 in
theorem r18 : (bif I.callC Tryz.prog 2 Xb 10000 100 (2 * S18.f) S18.args S18.h S18.nx (I.endK S18) then true else false) = true := by kernel_rfl
theorem ok18 : I.SnapOk Tryz.prog 2 S18 := I.snap_of_run xb_ok r18
set_option maxRecDepth 1000000 in
theorem r22 : (bif I.callC Tryz.prog 2 Xb 10000 100 (2 * S22.f) S22.args S22.h S22.nx (I.endK S22) then true else false) = true := by kernel_rfl
theorem ok22 : I.SnapOk Tryz.prog 2 S22 := I.snap_of_run xb_ok r22
set_option maxRecDepth 1000000 in
theorem r28 : (bif I.callC Tryz.prog 2 Xb 10000 100 (2 * S28.f) S28.args S28.h S28.nx (I.endK S28) then true else false) = true := by kernel_rfl
theorem ok28 : I.SnapOk Tryz.prog 2 S28 := I.snap_of_run xb_ok r28
set_option maxRecDepth 1000000 in
theorem r32 : (bif I.callC Tryz.prog 2 Xb 10000 100 (2 * S32.f) S32.args S32.h S32.nx (I.endK S32) then true else false) = true := by kernel_rfl
theorem ok32 : I.SnapOk Tryz.prog 2 S32 := I.snap_of_run xb_ok r32
set_option maxRecDepth 1000000 in
theorem r36 : (bif I.callC Tryz.prog 2 Xb 10000 100 (2 * S36.f) S36.args S36.h S36.nx (I.endK S36) then true else false) = true := by kernel_rfl
theorem ok36 : I.SnapOk Tryz.prog 2 S36 := I.snap_of_run xb_ok r36
set_option maxRecDepth 1000000 in
theorem r40 : (bif I.callC Tryz.prog 2 Xb 10000 100 (2 * S40.f) S40.args S40.h S40.nx (I.endK S40) then true else false) = true := by kernel_rfl
theorem ok40 : I.SnapOk Tryz.prog 2 S40 := I.snap_of_run xb_ok r40
set_option maxRecDepth 1000000 in
theorem r44 : (bif I.callC Tryz.prog 2 Xb 10000 100 (2 * S44.f) S44.args S44.h S44.nx (I.endK S44) then true else false) = true := by kernel_rfl
theorem ok44 : I.SnapOk Tryz.prog 2 S44 := I.snap_of_run xb_ok r44
set_option maxRecDepth 1000000 in
theorem r48 : (bif I.callC Tryz.prog 2 Xb 10000 100 (2 * S48.f) S48.args S48.h S48.nx (I.endK S48) then true else false) = true := by kernel_rfl
theorem ok48 : I.SnapOk Tryz.prog 2 S48 := I.snap_of_run xb_ok r48
set_option maxRecDepth 1000000 in
theorem r54 : (bif I.callC Tryz.prog 2 Xb 10000 100 (2 * S54.f) S54.args S54.h S54.nx (I.endK S54) then true else false) = true := by kernel_rfl
theorem ok54 : I.SnapOk Tryz.prog 2 S54 := I.snap_of_run xb_ok r54
set_option maxRecDepth 1000000 in
theorem r58 : (bif I.callC Tryz.prog 2 Xb 10000 100 (2 * S58.f) S58.args S58.h S58.nx (I.endK S58) then true else false) = true := by kernel_rfl
theorem ok58 : I.SnapOk Tryz.prog 2 S58 := I.snap_of_run xb_ok r58
set_option maxRecDepth 1000000 in
theorem r62 : (bif I.callC Tryz.prog 2 Xb 10000 100 (2 * S62.f) S62.args S62.h S62.nx (I.endK S62) then true else false) = true := by kernel_rfl
theorem ok62 : I.SnapOk Tryz.prog 2 S62 := I.snap_of_run xb_ok r62
set_option maxRecDepth 1000000 in
theorem r66 : (bif I.callC Tryz.prog 2 Xb 10000 100 (2 * S66.f) S66.args S66.h S66.nx (I.endK S66) then true else false) = true := by kernel_rfl
theorem ok66 : I.SnapOk Tryz.prog 2 S66 := I.snap_of_run xb_ok r66
set_option maxRecDepth 1000000 in
theorem r70 : (bif I.callC Tryz.prog 2 Xb 10000 100 (2 * S70.f) S70.args S70.h S70.nx (I.endK S70) then true else false) = true := by kernel_rfl
theorem ok70 : I.SnapOk Tryz.prog 2 S70 := I.snap_of_run xb_ok r70
set_option maxRecDepth 1000000 in
theorem r74 : (bif I.callC Tryz.prog 2 Xb 10000 100 (2 * S74.f) S74.args S74.h S74.nx (I.endK S74) then true else false) = true := by kernel_rfl
theorem ok74 : I.SnapOk Tryz.prog 2 S74 := I.snap_of_run xb_ok r74
set_option maxRecDepth 1000000 in
theorem r79 : (bif I.callC Tryz.prog 2 Xb 10000 100 (2 * S79.f) S79.args S79.h S79.nx (I.endK S79) then true else false) = true := by kernel_rfl
theorem ok79 : I.SnapOk Tryz.prog 2 S79 := I.snap_of_run xb_ok r79
set_option maxRecDepth 1000000 in
theorem r86 : (bif I.callC Tryz.prog 2 Xb 10000 100 (2 * S86.f) S86.args S86.h S86.nx (I.endK S86) then true else false) = true := by kernel_rfl
theorem ok86 : I.SnapOk Tryz.prog 2 S86 := I.snap_of_run xb_ok r86
set_option maxRecDepth 1000000 in
theorem r91 : (bif I.callC Tryz.prog 2 Xb 10000 100 (2 * S91.f) S91.args S91.h S91.nx (I.endK S91) then true else false) = true := by kernel_rfl
theorem ok91 : I.SnapOk Tryz.prog 2 S91 := I.snap_of_run xb_ok r91
set_option maxRecDepth 1000000 in
theorem r95 : (bif I.callC Tryz.prog 2 Xb 10000 100 (2 * S95.f) S95.args S95.h S95.nx (I.endK S95) then true else false) = true := by kernel_rfl
theorem ok95 : I.SnapOk Tryz.prog 2 S95 := I.snap_of_run xb_ok r95
set_option maxRecDepth 1000000 in
theorem r99 : (bif I.callC Tryz.prog 2 Xb 10000 100 (2 * S99.f) S99.args S99.h S99.nx (I.endK S99) then true else false) = true := by kernel_rfl
theorem ok99 : I.SnapOk Tryz.prog 2 S99 := I.snap_of_run xb_ok r99
set_option maxRecDepth 1000000 in
theorem r103 : (bif I.callC Tryz.prog 2 Xb 10000 100 (2 * S103.f) S103.args S103.h S103.nx (I.endK S103) then true else false) = true := by kernel_rfl
theorem ok103 : I.SnapOk Tryz.prog 2 S103 := I.snap_of_run xb_ok r103
set_option maxRecDepth 1000000 in
theorem r107 : (bif I.callC Tryz.prog 2 Xb 10000 100 (2 * S107.f) S107.args S107.h S107.nx (I.endK S107) then true else false) = true := by kernel_rfl
theorem ok107 : I.SnapOk Tryz.prog 2 S107 := I.snap_of_run xb_ok r107
set_option maxRecDepth 1000000 in
theorem r111 : (bif I.callC Tryz.prog 2 Xb 10000 100 (2 * S111.f) S111.args S111.h S111.nx (I.endK S111) then true else false) = true := by kernel_rfl
theorem ok111 : I.SnapOk Tryz.prog 2 S111 := I.snap_of_run xb_ok r111
set_option maxRecDepth 1000000 in
theorem r116 : (bif I.callC Tryz.prog 2 Xb 10000 100 (2 * S116.f) S116.args S116.h S116.nx (I.endK S116) then true else false) = true := by kernel_rfl
theorem ok116 : I.SnapOk Tryz.prog 2 S116 := I.snap_of_run xb_ok r116
set_option maxRecDepth 1000000 in
theorem r122 : (bif I.callC Tryz.prog 2 Xb 10000 100 (2 * S122.f) S122.args S122.h S122.nx (I.endK S122) then true else false) = true := by kernel_rfl
theorem ok122 : I.SnapOk Tryz.prog 2 S122 := I.snap_of_run xb_ok r122
end Go.Proofs.YtdjpokckamlccaaGreatDoor
