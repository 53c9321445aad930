/- The closed run, out of its parts. -/
import Derived.Test.YteaiebfcfcogdaaGreatDoorXb
import Derived.Test.YteaiebfcfcogdaaGreatDoorSn0
import Derived.Test.YteaiebfcfcogdaaGreatDoorSg1a
import Derived.Test.YteaiebfcfcogdaaGreatDoorSg1b
import Derived.Test.YteaiebfcfcogdaaGreatDoorSg1c
namespace Go.Proofs.YteaiebfcfcogdaaGreatDoor
set_option maxRecDepth 1000000 in
theorem r1 : (bif I.callC Tryz.prog 2 (I.orI (I.snapX S0) Xb) 10000 100 (2 * S1.f) S1.args S1.h S1.nx (I.endK S1) then true else false) = true := by kernel_rfl
theorem ok1 : I.SnapOk Tryz.prog 2 S1 := I.snap_of_run (I.orI_ok (I.snapX_ok ok0) xb_ok) r1
set_option maxRecDepth 1000000 in
theorem r27 : (bif I.callC Tryz.prog 2 (I.orI (I.snapX S2) (I.orI (I.snapX S3) (I.orI (I.snapX S4) (I.orI (I.snapX S5) (I.orI (I.snapX S6) (I.orI (I.snapX S7) (I.orI (I.snapX S8) (I.orI (I.snapX S9) (I.orI (I.snapX S10) (I.orI (I.snapX S11) (I.orI (I.snapX S12) (I.orI (I.snapX S13) (I.orI (I.snapX S14) (I.orI (I.snapX S15) (I.orI (I.snapX S16) (I.orI (I.snapX S17) (I.orI (I.snapX S18) (I.orI (I.snapX S19) (I.orI (I.snapX S20) (I.orI (I.snapX S21) (I.orI (I.snapX S22) (I.orI (I.snapX S23) (I.orI (I.snapX S24) (I.orI (I.snapX S25) (I.orI (I.snapX S26) Xb))))))))))))))))))))))))) 10000 100 (2 * S27.f) S27.args S27.h S27.nx (I.endK S27) then true else false) = true := by kernel_rfl
theorem ok27 : I.SnapOk Tryz.prog 2 S27 := I.snap_of_run (I.orI_ok (I.snapX_ok ok2) (I.orI_ok (I.snapX_ok ok3) (I.orI_ok (I.snapX_ok ok4) (I.orI_ok (I.snapX_ok ok5) (I.orI_ok (I.snapX_ok ok6) (I.orI_ok (I.snapX_ok ok7) (I.orI_ok (I.snapX_ok ok8) (I.orI_ok (I.snapX_ok ok9) (I.orI_ok (I.snapX_ok ok10) (I.orI_ok (I.snapX_ok ok11) (I.orI_ok (I.snapX_ok ok12) (I.orI_ok (I.snapX_ok ok13) (I.orI_ok (I.snapX_ok ok14) (I.orI_ok (I.snapX_ok ok15) (I.orI_ok (I.snapX_ok ok16) (I.orI_ok (I.snapX_ok ok17) (I.orI_ok (I.snapX_ok ok18) (I.orI_ok (I.snapX_ok ok19) (I.orI_ok (I.snapX_ok ok20) (I.orI_ok (I.snapX_ok ok21) (I.orI_ok (I.snapX_ok ok22) (I.orI_ok (I.snapX_ok ok23) (I.orI_ok (I.snapX_ok ok24) (I.orI_ok (I.snapX_ok ok25) (I.orI_ok (I.snapX_ok ok26) xb_ok))))))))))))))))))))))))) r27
set_option maxRecDepth 1000000 in
theorem r34 : (bif I.callC Tryz.prog 2 (I.orI (I.snapX S29) (I.orI (I.snapX S30) (I.orI (I.snapX S31) (I.orI (I.snapX S32) (I.orI (I.snapX S33) Xb))))) 10000 100 (2 * S34.f) S34.args S34.h S34.nx (I.endK S34) then true else false) = true := by kernel_rfl
theorem ok34 : I.SnapOk Tryz.prog 2 S34 := I.snap_of_run (I.orI_ok (I.snapX_ok ok29) (I.orI_ok (I.snapX_ok ok30) (I.orI_ok (I.snapX_ok ok31) (I.orI_ok (I.snapX_ok ok32) (I.orI_ok (I.snapX_ok ok33) xb_ok))))) r34
set_option maxRecDepth 1000000 in
theorem r65 : (bif I.callC Tryz.prog 2 (I.orI (I.snapX S41) (I.orI (I.snapX S42) (I.orI (I.snapX S43) (I.orI (I.snapX S44) (I.orI (I.snapX S45) (I.orI (I.snapX S46) (I.orI (I.snapX S47) (I.orI (I.snapX S48) (I.orI (I.snapX S49) (I.orI (I.snapX S50) (I.orI (I.snapX S51) (I.orI (I.snapX S52) (I.orI (I.snapX S53) (I.orI (I.snapX S54) (I.orI (I.snapX S55) (I.orI (I.snapX S56) (I.orI (I.snapX S57) (I.orI (I.snapX S58) (I.orI (I.snapX S59) (I.orI (I.snapX S60) (I.orI (I.snapX S61) (I.orI (I.snapX S62) (I.orI (I.snapX S63) (I.orI (I.snapX S64) Xb)))))))))))))))))))))))) 10000 100 (2 * S65.f) S65.args S65.h S65.nx (I.endK S65) then true else false) = true := by kernel_rfl
theorem ok65 : I.SnapOk Tryz.prog 2 S65 := I.snap_of_run (I.orI_ok (I.snapX_ok ok41) (I.orI_ok (I.snapX_ok ok42) (I.orI_ok (I.snapX_ok ok43) (I.orI_ok (I.snapX_ok ok44) (I.orI_ok (I.snapX_ok ok45) (I.orI_ok (I.snapX_ok ok46) (I.orI_ok (I.snapX_ok ok47) (I.orI_ok (I.snapX_ok ok48) (I.orI_ok (I.snapX_ok ok49) (I.orI_ok (I.snapX_ok ok50) (I.orI_ok (I.snapX_ok ok51) (I.orI_ok (I.snapX_ok ok52) (I.orI_ok (I.snapX_ok ok53) (I.orI_ok (I.snapX_ok ok54) (I.orI_ok (I.snapX_ok ok55) (I.orI_ok (I.snapX_ok ok56) (I.orI_ok (I.snapX_ok ok57) (I.orI_ok (I.snapX_ok ok58) (I.orI_ok (I.snapX_ok ok59) (I.orI_ok (I.snapX_ok ok60) (I.orI_ok (I.snapX_ok ok61) (I.orI_ok (I.snapX_ok ok62) (I.orI_ok (I.snapX_ok ok63) (I.orI_ok (I.snapX_ok ok64) xb_ok)))))))))))))))))))))))) r65
set_option maxRecDepth 1000000 in
theorem r71 : (bif I.callC Tryz.prog 2 (I.orI (I.snapX S66) (I.orI (I.snapX S67) (I.orI (I.snapX S68) (I.orI (I.snapX S69) (I.orI (I.snapX S70) Xb))))) 10000 100 (2 * S71.f) S71.args S71.h S71.nx (I.endK S71) then true else false) = true := by kernel_rfl
theorem ok71 : I.SnapOk Tryz.prog 2 S71 := I.snap_of_run (I.orI_ok (I.snapX_ok ok66) (I.orI_ok (I.snapX_ok ok67) (I.orI_ok (I.snapX_ok ok68) (I.orI_ok (I.snapX_ok ok69) (I.orI_ok (I.snapX_ok ok70) xb_ok))))) r71
set_option maxRecDepth 1000000 in
theorem r35 : (bif I.callC Tryz.prog 2 (I.orI (I.snapX S34) Xb) 10000 100 (2 * S35.f) S35.args S35.h S35.nx (I.endK S35) then true else false) = true := by kernel_rfl
theorem ok35 : I.SnapOk Tryz.prog 2 S35 := I.snap_of_run (I.orI_ok (I.snapX_ok ok34) xb_ok) r35
set_option maxRecDepth 1000000 in
theorem r72 : (bif I.callC Tryz.prog 2 (I.orI (I.snapX S71) Xb) 10000 100 (2 * S72.f) S72.args S72.h S72.nx (I.endK S72) then true else false) = true := by kernel_rfl
theorem ok72 : I.SnapOk Tryz.prog 2 S72 := I.snap_of_run (I.orI_ok (I.snapX_ok ok71) xb_ok) r72
set_option maxRecDepth 1000000 in
theorem r36 : (bif I.callC Tryz.prog 2 (I.orI (I.snapX S28) (I.orI (I.snapX S35) Xb)) 10000 100 (2 * S36.f) S36.args S36.h S36.nx (I.endK S36) then true else false) = true := by kernel_rfl
theorem ok36 : I.SnapOk Tryz.prog 2 S36 := I.snap_of_run (I.orI_ok (I.snapX_ok ok28) (I.orI_ok (I.snapX_ok ok35) xb_ok)) r36
set_option maxRecDepth 1000000 in
theorem r73 : (bif I.callC Tryz.prog 2 (I.orI (I.snapX S38) (I.orI (I.snapX S39) (I.orI (I.snapX S40) (I.orI (I.snapX S65) (I.orI (I.snapX S72) Xb))))) 10000 100 (2 * S73.f) S73.args S73.h S73.nx (I.endK S73) then true else false) = true := by kernel_rfl
theorem ok73 : I.SnapOk Tryz.prog 2 S73 := I.snap_of_run (I.orI_ok (I.snapX_ok ok38) (I.orI_ok (I.snapX_ok ok39) (I.orI_ok (I.snapX_ok ok40) (I.orI_ok (I.snapX_ok ok65) (I.orI_ok (I.snapX_ok ok72) xb_ok))))) r73
set_option maxRecDepth 1000000 in
theorem r75 : (bif I.callC Tryz.prog 2 (I.orI (I.snapX S27) (I.orI (I.snapX S36) (I.orI (I.snapX S37) (I.orI (I.snapX S73) (I.orI (I.snapX S74) Xb))))) 10000 100 (2 * S75.f) S75.args S75.h S75.nx (I.endK S75) then true else false) = true := by kernel_rfl
theorem ok75 : I.SnapOk Tryz.prog 2 S75 := I.snap_of_run (I.orI_ok (I.snapX_ok ok27) (I.orI_ok (I.snapX_ok ok36) (I.orI_ok (I.snapX_ok ok37) (I.orI_ok (I.snapX_ok ok73) (I.orI_ok (I.snapX_ok ok74) xb_ok))))) r75
set_option maxRecDepth 1000000 in
theorem main_run : (bif I.callC Tryz.prog 2 (I.orI (I.snapX S1) (I.orI (I.snapX S75) Xb)) 10000 100 (2 * 3) [] (I.tabHG 1 .u32 roundsL) 2 I.isT then true else false) = true := by kernel_rfl
theorem main_ok : I.XOk Tryz.prog 2 (I.orI (I.snapX S1) (I.orI (I.snapX S75) Xb)) := (I.orI_ok (I.snapX_ok ok1) (I.orI_ok (I.snapX_ok ok75) xb_ok))
end Go.Proofs.YteaiebfcfcogdaaGreatDoor
