/- Texts on which the proof of this claim stands: SgM, RunStoreNil. -/
import Derived.Test.YtdjpokckamlccaaGreatDoorP8
import Derived.Test.YtdjpokckamlccaaGreatDoorP9
import Derived.Test.YtdjpokckamlccaaGreatDoorP10
import Derived.Test.YtdjpokckamlccaaGreatDoorP11
import Derived.Test.YtdjpokckamlccaaGreatDoorP12
import Derived.Test.YtdjpokckamlccaaGreatDoorP13
import Derived.Test.YtdjpokckamlccaaGreatDoorP14
import Derived.Test.YtdjpokckamlccaaGreatDoorP15
import Derived.Test.YtdjpokckamlccaaGreatDoorP16
import Derived.Test.YtdjpokckamlccaaGreatDoorP17
import Derived.Test.YtdjpokckamlccaaGreatDoorP18
import Derived.Test.YtdjpokckamlccaaGreatDoorP19
import Derived.Test.YtdjpokckamlccaaGreatDoorP20
namespace Go.Proofs.YtdjpokckamlccaaGreatDoor
set_option maxRecDepth 1000000 in
theorem main_run : (bif I.callC Tryz.prog 2 (I.orI (I.snapX S124) Xb) 10000 100 (2 * 3) [] (I.tabHG 0 .u32 roundsL) 2 I.isT then true else false) = true := by kernel_rfl
theorem main_ok : I.XOk Tryz.prog 2 (I.orI (I.snapX S124) Xb) := (I.orI_ok (I.snapX_ok ok124) xb_ok)
end Go.Proofs.YtdjpokckamlccaaGreatDoor
namespace Go.Proofs.YtdjpokckamlccaaGreatDoor
theorem storeNil_walk {w : World} {t : TypeId} {fr : Nat × Nat} (hb : w.heap[0]? = some (.cells (roundsL.map fun z => Value.int .u32 z).toArray t fr)) : Calls Tryz.prog 3 #[] w fun e w' => e = .returned (.bool true) ∧ K.Ext [] w w' := I.closed_tabG (by decide) (by decide) main_ok main_run hb
end Go.Proofs.YtdjpokckamlccaaGreatDoor
