/- Parts of a closed run: each ends as its snapshot says. -/
import Derived.Test.YtpaekplhcjleaaaGreatDoorXb
import Derived.Test.YtpaekplhcjleaaaGreatDoorSn0
namespace Go.Proofs.YtpaekplhcjleaaaGreatDoor
set_option maxRecDepth 1000000 in
theorem r1 : (bif I.callC Tryz.prog 2 Xb 10000 100 (2 * S1.f) S1.args S1.h S1.nx (I.endK S1) then true else false) = true := by kernel_rfl
theorem ok1 : I.SnapOk Tryz.prog 2 S1 := I.snap_of_run xb_ok r1
set_option maxRecDepth 1000000 in
theorem r4 : (bif I.callC Tryz.prog 2 Xb 10000 100 (2 * S4.f) S4.args S4.h S4.nx (I.endK S4) then true else false) = true := by kernel_rfl
theorem ok4 : I.SnapOk Tryz.prog 2 S4 := I.snap_of_run xb_ok r4
set_option maxRecDepth 1000000 in
theorem r7 : (bif I.callC Tryz.prog 2 Xb 10000 100 (2 * S7.f) S7.args S7.h S7.nx (I.endK S7) then true else false) = true := by kernel_rfl
theorem ok7 : I.SnapOk Tryz.prog 2 S7 := I.snap_of_run xb_ok r7
set_option maxRecDepth 1000000 in
theorem r10 : (bif I.callC Tryz.prog 2 Xb 10000 100 (2 * S10.f) S10.args S10.h S10.nx (I.endK S10) then true else false) = true := by kernel_rfl
theorem ok10 : I.SnapOk Tryz.prog 2 S10 := I.snap_of_run xb_ok r10
set_option maxRecDepth 1000000 in
theorem r13 : (bif I.callC Tryz.prog 2 Xb 10000 100 (2 * S13.f) S13.args S13.h S13.nx (I.endK S13) then true else false) = true := by kernel_rfl
theorem ok13 : I.SnapOk Tryz.prog 2 S13 := I.snap_of_run xb_ok r13
set_option maxRecDepth 1000000 in
theorem r16 : (bif I.callC Tryz.prog 2 Xb 10000 100 (2 * S16.f) S16.args S16.h S16.nx (I.endK S16) then true else false) = true := by kernel_rfl
theorem ok16 : I.SnapOk Tryz.prog 2 S16 := I.snap_of_run xb_ok r16
set_option maxRecDepth 1000000 in
theorem r19 : (bif I.callC Tryz.prog 2 Xb 10000 100 (2 * S19.f) S19.args S19.h S19.nx (I.endK S19) then true else false) = true := by kernel_rfl
theorem ok19 : I.SnapOk Tryz.prog 2 S19 := I.snap_of_run xb_ok r19
set_option maxRecDepth 1000000 in
theorem r22 : (bif I.callC Tryz.prog 2 Xb 10000 100 (2 * S22.f) S22.args S22.h S22.nx (I.endK S22) then true else false) = true := by kernel_rfl
theorem ok22 : I.SnapOk Tryz.prog 2 S22 := I.snap_of_run xb_ok r22
set_option maxRecDepth 1000000 in
theorem r26 : (bif I.callC Tryz.prog 2 Xb 10000 100 (2 * S26.f) S26.args S26.h S26.nx (I.endK S26) then true else false) = true := by kernel_rfl
theorem ok26 : I.SnapOk Tryz.prog 2 S26 := I.snap_of_run xb_ok r26
set_option maxRecDepth 1000000 in
theorem r29 : (bif I.callC Tryz.prog 2 Xb 10000 100 (2 * S29.f) S29.args S29.h S29.nx (I.endK S29) then true else false) = true := by kernel_rfl
theorem ok29 : I.SnapOk Tryz.prog 2 S29 := I.snap_of_run xb_ok r29
set_option maxRecDepth 1000000 in
theorem r35 : (bif I.callC Tryz.prog 2 Xb 10000 100 (2 * S35.f) S35.args S35.h S35.nx (I.endK S35) then true else false) = true := by kernel_rfl
theorem ok35 : I.SnapOk Tryz.prog 2 S35 := I.snap_of_run xb_ok r35
set_option maxRecDepth 1000000 in
theorem r38 : (bif I.callC Tryz.prog 2 Xb 10000 100 (2 * S38.f) S38.args S38.h S38.nx (I.endK S38) then true else false) = true := by kernel_rfl
theorem ok38 : I.SnapOk Tryz.prog 2 S38 := I.snap_of_run xb_ok r38
set_option maxRecDepth 1000000 in
theorem r41 : (bif I.callC Tryz.prog 2 Xb 10000 100 (2 * S41.f) S41.args S41.h S41.nx (I.endK S41) then true else false) = true := by kernel_rfl
theorem ok41 : I.SnapOk Tryz.prog 2 S41 := I.snap_of_run xb_ok r41
set_option maxRecDepth 1000000 in
theorem r44 : (bif I.callC Tryz.prog 2 Xb 10000 100 (2 * S44.f) S44.args S44.h S44.nx (I.endK S44) then true else false) = true := by kernel_rfl
theorem ok44 : I.SnapOk Tryz.prog 2 S44 := I.snap_of_run xb_ok r44
set_option maxRecDepth 1000000 in
theorem r47 : (bif I.callC Tryz.prog 2 Xb 10000 100 (2 * S47.f) S47.args S47.h S47.nx (I.endK S47) then true else false) = true := by kernel_rfl
theorem ok47 : I.SnapOk Tryz.prog 2 S47 := I.snap_of_run xb_ok r47
set_option maxRecDepth 1000000 in
theorem r50 : (bif I.callC Tryz.prog 2 Xb 10000 100 (2 * S50.f) S50.args S50.h S50.nx (I.endK S50) then true else false) = true := by kernel_rfl
theorem ok50 : I.SnapOk Tryz.prog 2 S50 := I.snap_of_run xb_ok r50
set_option maxRecDepth 1000000 in
theorem r53 : (bif I.callC Tryz.prog 2 Xb 10000 100 (2 * S53.f) S53.args S53.h S53.nx (I.endK S53) then true else false) = true := by kernel_rfl
theorem ok53 : I.SnapOk Tryz.prog 2 S53 := I.snap_of_run xb_ok r53
set_option maxRecDepth 1000000 in
theorem r56 : (bif I.callC Tryz.prog 2 Xb 10000 100 (2 * S56.f) S56.args S56.h S56.nx (I.endK S56) then true else false) = true := by kernel_rfl
theorem ok56 : I.SnapOk Tryz.prog 2 S56 := I.snap_of_run xb_ok r56
set_option maxRecDepth 1000000 in
theorem r59 : (bif I.callC Tryz.prog 2 Xb 10000 100 (2 * S59.f) S59.args S59.h S59.nx (I.endK S59) then true else false) = true := by kernel_rfl
theorem ok59 : I.SnapOk Tryz.prog 2 S59 := I.snap_of_run xb_ok r59
set_option maxRecDepth 1000000 in
theorem r62 : (bif I.callC Tryz.prog 2 Xb 10000 100 (2 * S62.f) S62.args S62.h S62.nx (I.endK S62) then true else false) = true := by kernel_rfl
theorem ok62 : I.SnapOk Tryz.prog 2 S62 := I.snap_of_run xb_ok r62
set_option maxRecDepth 1000000 in
theorem r66 : (bif I.callC Tryz.prog 2 Xb 10000 100 (2 * S66.f) S66.args S66.h S66.nx (I.endK S66) then true else false) = true := by kernel_rfl
theorem ok66 : I.SnapOk Tryz.prog 2 S66 := I.snap_of_run xb_ok r66
set_option maxRecDepth 1000000 in
theorem r72 : (bif I.callC Tryz.prog 2 Xb 10000 100 (2 * S72.f) S72.args S72.h S72.nx (I.endK S72) then true else false) = true := by kernel_rfl
theorem ok72 : I.SnapOk Tryz.prog 2 S72 := I.snap_of_run xb_ok r72
end Go.Proofs.YtpaekplhcjleaaaGreatDoor
