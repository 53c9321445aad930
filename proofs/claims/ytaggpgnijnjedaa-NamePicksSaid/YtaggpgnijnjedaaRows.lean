/-
  No cell of these rows narrows 'for every input' (looked for: loops, veiled, ifaces, maps, wideKeys, modest, calm, conditions, laid).
  DERIVED. THE GIVEN ROWS OF THIS SEAT. 4 by the template 'for every input the law returns true; each argument reads behind the call as it read before'; 0 by the template 'total and deterministic' (their statements: YtaggpgnijnjedaaTotals.lean).
  GIVEN WITH THE SEED: the statements are not yours to turn. If you find one false, say at which input.
  Laid BY PROGRAM, IN A SANDBOX (cutbox-rows.mjs): the forced cells as the released guide's own fill.sh prints them over the translation a5064e8101cfb833… (all of the seat's roots in one cut). By AI agents, Wed Nov 11 2026. No macro, syntax, notation, axiom, sorry.
-/
import Derived.Test.YtaggpgnijnjedaaChecked
import GoSem.Claim
import GoSem.ClaimJoined
import GoSem.ClaimMapViews
import Derived.JoinedTies
import Derived.KernelRfl
namespace Go.Proofs.Ytaggpgnijnjedaa
/- THE CELL 'sum', in the pinned program and in every row, IS THE sha256 OF THE DUMP (.gsa) THAT YtaggpgnijnjedaaProg.lean LOADS. Nothing in Lean hashes anything: it is a label: what it is worth is what the hold of that sum in a sandbox is worth. -/
noncomputable def Try.pinned : Pinned := { name := "ytaggpgnijnjedaa", sum := "a5064e8101cfb8335a67285d3eb99aaf3da1d7f6ce64d2c0818746ec9bee9f0e", checked := Try.checked }
namespace Rows
def none {H : Type} : Left H := { results := [], args := [] }

/-- 'parterrelaw07.NameRefs': WHATEVER THE INPUT: true; the input reads as it did. -/
def nameRefsSpec : ChangeSpec := { name := "nameRefs", fn := fun _ => fun
  | [d] => { results := [.lit (.bool true)], args := [d] }
  | _ => none }
def nameRefsRow : OpenClaim := { program := "ytaggpgnijnjedaa", sum := "a5064e8101cfb8335a67285d3eb99aaf3da1d7f6ce64d2c0818746ec9bee9f0e", func := "parterre/parterrelaw07.NameRefs", spec := "nameRefs", apart := false }
def NameRefsSaid : Prop := nameRefsRow.holds Try.pinned (OpenSpec.ofChange nameRefsSpec)

/-- ITS FALSE NEIGHBOUR: 'it returns false'. Refute it at one input. -/
def nameRefsWrong : ChangeSpec := { name := "nameRefs", fn := fun _ => fun
  | [d] => { results := [.lit (.bool false)], args := [d] }
  | _ => none }
def NameRefsWrongFalsely : Prop := nameRefsRow.holds Try.pinned (OpenSpec.ofChange nameRefsWrong)

/-- 'parterrelaw07.NameOrders': WHATEVER THE INPUT: true; the input reads as it did. -/
def nameOrdersSpec : ChangeSpec := { name := "nameOrders", fn := fun _ => fun
  | [d1, d2] => { results := [.lit (.bool true)], args := [d1, d2] }
  | _ => none }
def nameOrdersRow : OpenClaim := { program := "ytaggpgnijnjedaa", sum := "a5064e8101cfb8335a67285d3eb99aaf3da1d7f6ce64d2c0818746ec9bee9f0e", func := "parterre/parterrelaw07.NameOrders", spec := "nameOrders", apart := false }
def NameOrdersSaid : Prop := nameOrdersRow.holds Try.pinned (OpenSpec.ofChange nameOrdersSpec)

/-- ITS FALSE NEIGHBOUR: 'it returns false'. Refute it at one input. -/
def nameOrdersWrong : ChangeSpec := { name := "nameOrders", fn := fun _ => fun
  | [d1, d2] => { results := [.lit (.bool false)], args := [d1, d2] }
  | _ => none }
def NameOrdersWrongFalsely : Prop := nameOrdersRow.holds Try.pinned (OpenSpec.ofChange nameOrdersWrong)

/-- 'parterrelaw07.NamePicks': WHATEVER THE INPUT: true; the input reads as it did. -/
def namePicksSpec : ChangeSpec := { name := "namePicks", fn := fun _ => fun
  | [d1, d2] => { results := [.lit (.bool true)], args := [d1, d2] }
  | _ => none }
def namePicksRow : OpenClaim := { program := "ytaggpgnijnjedaa", sum := "a5064e8101cfb8335a67285d3eb99aaf3da1d7f6ce64d2c0818746ec9bee9f0e", func := "parterre/parterrelaw07.NamePicks", spec := "namePicks", apart := false }
def NamePicksSaid : Prop := namePicksRow.holds Try.pinned (OpenSpec.ofChange namePicksSpec)

/-- ITS FALSE NEIGHBOUR: 'it returns false'. Refute it at one input. -/
def namePicksWrong : ChangeSpec := { name := "namePicks", fn := fun _ => fun
  | [d1, d2] => { results := [.lit (.bool false)], args := [d1, d2] }
  | _ => none }
def NamePicksWrongFalsely : Prop := namePicksRow.holds Try.pinned (OpenSpec.ofChange namePicksWrong)

/-- 'parterrelaw07.NameFiles': WHATEVER THE INPUT: true; the input reads as it did. -/
def nameFilesSpec : ChangeSpec := { name := "nameFiles", fn := fun _ => fun
  | [d1, d2] => { results := [.lit (.bool true)], args := [d1, d2] }
  | _ => none }
def nameFilesRow : OpenClaim := { program := "ytaggpgnijnjedaa", sum := "a5064e8101cfb8335a67285d3eb99aaf3da1d7f6ce64d2c0818746ec9bee9f0e", func := "parterre/parterrelaw07.NameFiles", spec := "nameFiles", apart := false }
def NameFilesSaid : Prop := nameFilesRow.holds Try.pinned (OpenSpec.ofChange nameFilesSpec)

/-- ITS FALSE NEIGHBOUR: 'it returns false'. Refute it at one input. -/
def nameFilesWrong : ChangeSpec := { name := "nameFiles", fn := fun _ => fun
  | [d1, d2] => { results := [.lit (.bool false)], args := [d1, d2] }
  | _ => none }
def NameFilesWrongFalsely : Prop := nameFilesRow.holds Try.pinned (OpenSpec.ofChange nameFilesWrong)

/- THE SECOND FORM. 'bulk': how many values and letters a reading holds, each counted each time it is reached (what is shared counts as often as it is met; a slice's spare places count too). A statement '..UptoSaid' is the law's where the arguments, and the package variables that the reading takes, are together of bulk at most 1048576: NARROWER than '..Said'. Prove '..Said' where nothing that the law and all that it calls make is longer than what came in: it says more and counts as full. Else prove '..UptoSaid'. A law counts once. -/
mutual
def uptoBulk {H : Type} : DataW H → Nat
  | .lit (.string bytes) => bytes.length + 1
  | .lit _ => 1
  | .nil => 1
  | .ptr d => uptoBulk d + 1
  | .slice elems spare => uptoBulkAll elems + uptoBulkAll spare + 1
  | .agg parts => uptoBulkAll parts + 1
  | .iface _ d => uptoBulk d + 1
  | .map entries => uptoBulkEntries entries + 1
  | .held _ => 1
def uptoBulkAll {H : Type} : List (DataW H) → Nat
  | [] => 0
  | d :: r => uptoBulk d + uptoBulkAll r
def uptoBulkEntries {H : Type} : List (Lit × DataW H) → Nat
  | [] => 0
  | x :: r => uptoBulkEntry x + uptoBulkEntries r
def uptoBulkEntry {H : Type} : Lit × DataW H → Nat
  | (.string bytes, d) => bytes.length + uptoBulk d + 1
  | (_, d) => uptoBulk d + 1
 end
def uptoSmall : (H : Type) → List (DataW H) → Bool := fun _ ds => decide (uptoBulkAll ds ≤ 1048576)
def OpenSpec.upto (s : _root_.Go.ChangeSpec) : _root_.Go.OpenSpec := { _root_.Go.OpenSpec.ofChange s with cond := some uptoSmall }

/-- 'parterrelaw07.NameRefs', WHERE WHAT IT READS IS OF BULK AT MOST 1048576: true; the input reads as it did. -/
def nameRefsUptoRow : OpenClaim := { program := "ytaggpgnijnjedaa", sum := "a5064e8101cfb8335a67285d3eb99aaf3da1d7f6ce64d2c0818746ec9bee9f0e", func := "parterre/parterrelaw07.NameRefs", spec := "nameRefs", apart := false, narrowed := true }
def NameRefsUptoSaid : Prop := nameRefsUptoRow.holds Try.pinned (OpenSpec.upto nameRefsSpec)

/-- 'parterrelaw07.NameOrders', WHERE WHAT IT READS IS OF BULK AT MOST 1048576: true; the input reads as it did. -/
def nameOrdersUptoRow : OpenClaim := { program := "ytaggpgnijnjedaa", sum := "a5064e8101cfb8335a67285d3eb99aaf3da1d7f6ce64d2c0818746ec9bee9f0e", func := "parterre/parterrelaw07.NameOrders", spec := "nameOrders", apart := false, narrowed := true }
def NameOrdersUptoSaid : Prop := nameOrdersUptoRow.holds Try.pinned (OpenSpec.upto nameOrdersSpec)

/-- 'parterrelaw07.NamePicks', WHERE WHAT IT READS IS OF BULK AT MOST 1048576: true; the input reads as it did. -/
def namePicksUptoRow : OpenClaim := { program := "ytaggpgnijnjedaa", sum := "a5064e8101cfb8335a67285d3eb99aaf3da1d7f6ce64d2c0818746ec9bee9f0e", func := "parterre/parterrelaw07.NamePicks", spec := "namePicks", apart := false, narrowed := true }
def NamePicksUptoSaid : Prop := namePicksUptoRow.holds Try.pinned (OpenSpec.upto namePicksSpec)

/-- 'parterrelaw07.NameFiles', WHERE WHAT IT READS IS OF BULK AT MOST 1048576: true; the input reads as it did. -/
def nameFilesUptoRow : OpenClaim := { program := "ytaggpgnijnjedaa", sum := "a5064e8101cfb8335a67285d3eb99aaf3da1d7f6ce64d2c0818746ec9bee9f0e", func := "parterre/parterrelaw07.NameFiles", spec := "nameFiles", apart := false, narrowed := true }
def NameFilesUptoSaid : Prop := nameFilesUptoRow.holds Try.pinned (OpenSpec.upto nameFilesSpec)

end Rows
end Go.Proofs.Ytaggpgnijnjedaa
