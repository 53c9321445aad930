/- The closed law JournalNil returns true in whatever world that holds the table sha.rounds, and all that lay is as it was: the kernel runs the interpreter. -/
import Derived.Test.YtkfpiejohgoonaaGreatDoorChecked
import Derived.Test.YtkfpiejohgoonaaGreatDoorJ7
import Derived.Test.YtkfpiejohgoonaaGreatDoorShaK
import Derived.Test.YtkfpiejohgoonaaGreatDoorLay1
import Derived.Test.YtkfpiejohgoonaaGreatDoorLay2
namespace Go.Proofs.YtkfpiejohgoonaaGreatDoor

def roundsL : List Int := [1116352408, 1899447441, 3049323471, 3921009573, 961987163, 1508970993, 2453635748, 2870763221, 3624381080, 310598401, 607225278, 1426881987, 1925078388, 2162078206, 2614888103, 3248222580, 3835390401, 4022224774, 264347078, 604807628, 770255983, 1249150122, 1555081692, 1996064986, 2554220882, 2821834349, 2952996808, 3210313671, 3336571891, 3584528711, 113926993, 338241895, 666307205, 773529912, 1294757372, 1396182291, 1695183700, 1986661051, 2177026350, 2456956037, 2730485921, 2820302411, 3259730800, 3345764771, 3516065817, 3600352804, 4094571909, 275423344, 430227734, 506948616, 659060556, 883997877, 958139571, 1322822218, 1537002063, 1747873779, 1955562222, 2024104815, 2227730452, 2361852424, 2428436474, 2756734187, 3204031479, 3329325298]

set_option maxRecDepth 1000000 in
theorem journalNil_run : (bif I.callC Tryz.prog 1 (I.orX (I.sumX 53) (I.orX (I.sortX 23 43 3) (I.sortX 23 99 3))) 10000 100 (2 * 3) [] (I.tabH .u32 roundsL) 1 I.isT then true else false) = true := by kernel_rfl

theorem journalNil_walk {w : World} {t : TypeId} {fr : Nat × Nat} (hb : w.heap[0]? = some (.cells (roundsL.map fun z => Value.int .u32 z).toArray t fr)) : Calls Tryz.prog 3 #[] w fun e w' => e = .returned (.bool true) ∧ K.Ext [] w w' := I.closed_tab (I.orX_ok (I.sumX_ok shaSumI (by decide)) (I.orX_ok (I.sortX_ok L.sortedKeys24) (I.sortX_ok L.sortedKeys89))) journalNil_run hb

end Go.Proofs.YtkfpiejohgoonaaGreatDoor
