/- The closed law FilesNil returns true in whatever world that holds the table sha.rounds, and all that lay is as it was: out of its parts. -/
import Derived.Test.YteaiebfcfcogdaaGreatDoorSgM
namespace Go.Proofs.YteaiebfcfcogdaaGreatDoor
theorem filesNil_walk {w : World} {t : TypeId} {fr : Nat × Nat} (hb : w.heap[1]? = some (.cells (roundsL.map fun z => Value.int .u32 z).toArray t fr)) : Calls Tryz.prog 3 #[] w fun e w' => e = .returned (.bool true) ∧ K.Ext [] w w' := I.closed_tabG (by decide) (by decide) main_ok main_run hb
end Go.Proofs.YteaiebfcfcogdaaGreatDoor
