/- The closed law WireNil returns true in whatever world, and all that lay is as it was: the kernel runs the interpreter. -/
import Derived.Test.YtmkefcjphdaoiaaChecked
import Derived.Test.YtmkefcjphdaoiaaI22
namespace Go.Proofs.Ytmkefcjphdaoiaa

set_option maxRecDepth 1000000 in
theorem wireNil_run : I.isTrue (I.callA Try.prog 0 (fun _ _ _ _ => none) 10000 100 6 [] I.H0 0) = true := by kernel_rfl

theorem wireNil (w : World) : Calls Try.prog 6 #[] w fun e w' => e = .returned (.bool true) ∧ K.Ext [] w w' := I.closed_run 100 I.no_X wireNil_run w

end Go.Proofs.Ytmkefcjphdaoiaa
