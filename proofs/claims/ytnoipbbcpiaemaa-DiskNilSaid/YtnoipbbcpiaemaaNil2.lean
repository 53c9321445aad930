/- The closed law DiskNil returns true in whatever world, and all that lay is as it was: the kernel runs the interpreter. -/
import Derived.Test.YtnoipbbcpiaemaaLay
namespace Go.Proofs.Ytnoipbbcpiaemaa

set_option maxRecDepth 1000000 in
theorem diskNil_run : I.isTrue (I.callA Try.prog 0 (I.sortX 36 41 3) 10000 100 4 [] I.H0 0) = true := by kernel_rfl

theorem diskNil (w : World) : Calls Try.prog 4 #[] w fun e w' => e = .returned (.bool true) ∧ K.Ext [] w w' := I.closed_run 100 (I.sortX_ok L.sortedKeys37) diskNil_run w

end Go.Proofs.Ytnoipbbcpiaemaa
