/- The closed run, out of its parts. -/
import Derived.Test.YtpaekplhcjleaaaGreatDoorXb
import Derived.Test.YtpaekplhcjleaaaGreatDoorSn0
import Derived.Test.YtpaekplhcjleaaaGreatDoorSg1a
import Derived.Test.YtpaekplhcjleaaaGreatDoorSg1b
import Derived.Test.YtpaekplhcjleaaaGreatDoorSg1c
namespace Go.Proofs.YtpaekplhcjleaaaGreatDoor
set_option maxRecDepth 1000000 in
theorem r25 : (bif I.callC Tryz.prog 2 (I.orI (I.snapX S0) (I.orI (I.snapX S1) (I.orI (I.snapX S2) (I.orI (I.snapX S3) (I.orI (I.snapX S4) (I.orI (I.snapX S5) (I.orI (I.snapX S6) (I.orI (I.snapX S7) (I.orI (I.snapX S8) (I.orI (I.snapX S9) (I.orI (I.snapX S10) (I.orI (I.snapX S11) (I.orI (I.snapX S12) (I.orI (I.snapX S13) (I.orI (I.snapX S14) (I.orI (I.snapX S15) (I.orI (I.snapX S16) (I.orI (I.snapX S17) (I.orI (I.snapX S18) (I.orI (I.snapX S19) (I.orI (I.snapX S20) (I.orI (I.snapX S21) (I.orI (I.snapX S22) (I.orI (I.snapX S23) (I.orI (I.snapX S24) Xb))))))))))))))))))))))))) 10000 100 (2 * S25.f) S25.args S25.h S25.nx (I.endK S25) then true else false) = true := by kernel_rfl
theorem ok25 : I.SnapOk Tryz.prog 2 S25 := I.snap_of_run (I.orI_ok (I.snapX_ok ok0) (I.orI_ok (I.snapX_ok ok1) (I.orI_ok (I.snapX_ok ok2) (I.orI_ok (I.snapX_ok ok3) (I.orI_ok (I.snapX_ok ok4) (I.orI_ok (I.snapX_ok ok5) (I.orI_ok (I.snapX_ok ok6) (I.orI_ok (I.snapX_ok ok7) (I.orI_ok (I.snapX_ok ok8) (I.orI_ok (I.snapX_ok ok9) (I.orI_ok (I.snapX_ok ok10) (I.orI_ok (I.snapX_ok ok11) (I.orI_ok (I.snapX_ok ok12) (I.orI_ok (I.snapX_ok ok13) (I.orI_ok (I.snapX_ok ok14) (I.orI_ok (I.snapX_ok ok15) (I.orI_ok (I.snapX_ok ok16) (I.orI_ok (I.snapX_ok ok17) (I.orI_ok (I.snapX_ok ok18) (I.orI_ok (I.snapX_ok ok19) (I.orI_ok (I.snapX_ok ok20) (I.orI_ok (I.snapX_ok ok21) (I.orI_ok (I.snapX_ok ok22) (I.orI_ok (I.snapX_ok ok23) (I.orI_ok (I.snapX_ok ok24) xb_ok))))))))))))))))))))))))) r25
set_option maxRecDepth 1000000 in
theorem r32 : (bif I.callC Tryz.prog 2 (I.orI (I.snapX S27) (I.orI (I.snapX S28) (I.orI (I.snapX S29) (I.orI (I.snapX S30) (I.orI (I.snapX S31) Xb))))) 10000 100 (2 * S32.f) S32.args S32.h S32.nx (I.endK S32) then true else false) = true := by kernel_rfl
theorem ok32 : I.SnapOk Tryz.prog 2 S32 := I.snap_of_run (I.orI_ok (I.snapX_ok ok27) (I.orI_ok (I.snapX_ok ok28) (I.orI_ok (I.snapX_ok ok29) (I.orI_ok (I.snapX_ok ok30) (I.orI_ok (I.snapX_ok ok31) xb_ok))))) r32
set_option maxRecDepth 1000000 in
theorem r63 : (bif I.callC Tryz.prog 2 (I.orI (I.snapX S39) (I.orI (I.snapX S40) (I.orI (I.snapX S41) (I.orI (I.snapX S42) (I.orI (I.snapX S43) (I.orI (I.snapX S44) (I.orI (I.snapX S45) (I.orI (I.snapX S46) (I.orI (I.snapX S47) (I.orI (I.snapX S48) (I.orI (I.snapX S49) (I.orI (I.snapX S50) (I.orI (I.snapX S51) (I.orI (I.snapX S52) (I.orI (I.snapX S53) (I.orI (I.snapX S54) (I.orI (I.snapX S55) (I.orI (I.snapX S56) (I.orI (I.snapX S57) (I.orI (I.snapX S58) (I.orI (I.snapX S59) (I.orI (I.snapX S60) (I.orI (I.snapX S61) (I.orI (I.snapX S62) Xb)))))))))))))))))))))))) 10000 100 (2 * S63.f) S63.args S63.h S63.nx (I.endK S63) then true else false) = true := by kernel_rfl
theorem ok63 : I.SnapOk Tryz.prog 2 S63 := I.snap_of_run (I.orI_ok (I.snapX_ok ok39) (I.orI_ok (I.snapX_ok ok40) (I.orI_ok (I.snapX_ok ok41) (I.orI_ok (I.snapX_ok ok42) (I.orI_ok (I.snapX_ok ok43) (I.orI_ok (I.snapX_ok ok44) (I.orI_ok (I.snapX_ok ok45) (I.orI_ok (I.snapX_ok ok46) (I.orI_ok (I.snapX_ok ok47) (I.orI_ok (I.snapX_ok ok48) (I.orI_ok (I.snapX_ok ok49) (I.orI_ok (I.snapX_ok ok50) (I.orI_ok (I.snapX_ok ok51) (I.orI_ok (I.snapX_ok ok52) (I.orI_ok (I.snapX_ok ok53) (I.orI_ok (I.snapX_ok ok54) (I.orI_ok (I.snapX_ok ok55) (I.orI_ok (I.snapX_ok ok56) (I.orI_ok (I.snapX_ok ok57) (I.orI_ok (I.snapX_ok ok58) (I.orI_ok (I.snapX_ok ok59) (I.orI_ok (I.snapX_ok ok60) (I.orI_ok (I.snapX_ok ok61) (I.orI_ok (I.snapX_ok ok62) xb_ok)))))))))))))))))))))))) r63
set_option maxRecDepth 1000000 in
theorem r69 : (bif I.callC Tryz.prog 2 (I.orI (I.snapX S64) (I.orI (I.snapX S65) (I.orI (I.snapX S66) (I.orI (I.snapX S67) (I.orI (I.snapX S68) Xb))))) 10000 100 (2 * S69.f) S69.args S69.h S69.nx (I.endK S69) then true else false) = true := by kernel_rfl
theorem ok69 : I.SnapOk Tryz.prog 2 S69 := I.snap_of_run (I.orI_ok (I.snapX_ok ok64) (I.orI_ok (I.snapX_ok ok65) (I.orI_ok (I.snapX_ok ok66) (I.orI_ok (I.snapX_ok ok67) (I.orI_ok (I.snapX_ok ok68) xb_ok))))) r69
set_option maxRecDepth 1000000 in
theorem r33 : (bif I.callC Tryz.prog 2 (I.orI (I.snapX S32) Xb) 10000 100 (2 * S33.f) S33.args S33.h S33.nx (I.endK S33) then true else false) = true := by kernel_rfl
theorem ok33 : I.SnapOk Tryz.prog 2 S33 := I.snap_of_run (I.orI_ok (I.snapX_ok ok32) xb_ok) r33
set_option maxRecDepth 1000000 in
theorem r70 : (bif I.callC Tryz.prog 2 (I.orI (I.snapX S69) Xb) 10000 100 (2 * S70.f) S70.args S70.h S70.nx (I.endK S70) then true else false) = true := by kernel_rfl
theorem ok70 : I.SnapOk Tryz.prog 2 S70 := I.snap_of_run (I.orI_ok (I.snapX_ok ok69) xb_ok) r70
set_option maxRecDepth 1000000 in
theorem r34 : (bif I.callC Tryz.prog 2 (I.orI (I.snapX S26) (I.orI (I.snapX S33) Xb)) 10000 100 (2 * S34.f) S34.args S34.h S34.nx (I.endK S34) then true else false) = true := by kernel_rfl
theorem ok34 : I.SnapOk Tryz.prog 2 S34 := I.snap_of_run (I.orI_ok (I.snapX_ok ok26) (I.orI_ok (I.snapX_ok ok33) xb_ok)) r34
set_option maxRecDepth 1000000 in
theorem r71 : (bif I.callC Tryz.prog 2 (I.orI (I.snapX S36) (I.orI (I.snapX S37) (I.orI (I.snapX S38) (I.orI (I.snapX S63) (I.orI (I.snapX S70) Xb))))) 10000 100 (2 * S71.f) S71.args S71.h S71.nx (I.endK S71) then true else false) = true := by kernel_rfl
theorem ok71 : I.SnapOk Tryz.prog 2 S71 := I.snap_of_run (I.orI_ok (I.snapX_ok ok36) (I.orI_ok (I.snapX_ok ok37) (I.orI_ok (I.snapX_ok ok38) (I.orI_ok (I.snapX_ok ok63) (I.orI_ok (I.snapX_ok ok70) xb_ok))))) r71
set_option maxRecDepth 1000000 in
theorem main_run : (bif I.callC Tryz.prog 2 (I.orI (I.snapX S25) (I.orI (I.snapX S34) (I.orI (I.snapX S35) (I.orI (I.snapX S71) (I.orI (I.snapX S72) Xb))))) 10000 100 (2 * 4) [] (I.tabHG 1 .u32 roundsL) 2 I.isT then true else false) = true := by kernel_rfl
theorem main_ok : I.XOk Tryz.prog 2 (I.orI (I.snapX S25) (I.orI (I.snapX S34) (I.orI (I.snapX S35) (I.orI (I.snapX S71) (I.orI (I.snapX S72) Xb))))) := (I.orI_ok (I.snapX_ok ok25) (I.orI_ok (I.snapX_ok ok34) (I.orI_ok (I.snapX_ok ok35) (I.orI_ok (I.snapX_ok ok71) (I.orI_ok (I.snapX_ok ok72) xb_ok)))))
end Go.Proofs.YtpaekplhcjleaaaGreatDoor
