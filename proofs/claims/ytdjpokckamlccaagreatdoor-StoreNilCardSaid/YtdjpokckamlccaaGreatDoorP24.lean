/- Texts on which the proof of this claim stands: Cjc. -/
import Derived.Test.YtdjpokckamlccaaGreatDoorCards
import Derived.JoinedCond
import Derived.ProofKit
namespace Go.Proofs.YtdjpokckamlccaaGreatDoor.storeNil
open Go.ChangeShapes Go.WideShapes Go.ChangeAt Go.RowKit
theorem cj12 : (Rows.storeNilRow.named == Tryz.pinned.checked.prog.varsNamed 3) = true := by kernel_rfl
theorem cj0 : Rows.storeNilRow.wf (OpenSpec.ofChange (OpenSpec.ofChange Rows.storeNilSpec).bare) = true := by kernel_rfl
theorem cj2 : mapsRowed Tryz.pinned.checked.prog = true := by kernel_rfl
theorem cj3 : Tryz.f3.params.all (Tryz.pinned.checked.prog.readableRec ·) = true := by kernel_rfl
theorem cj4 : namedTie Tryz.pinned.checked.prog Rows.storeNilRow.named (OpenSpec.ofChange Rows.storeNilSpec).bare.vars = true := by kernel_rfl
theorem cj5 : (Rows.storeNilRow.stops == []) = true := by kernel_rfl
theorem cj6 : (Tryz.pinned.checked.prog.stops == []) = true := by kernel_rfl
theorem cj7 : (Rows.storeNilRow.knobs == []) = true := by kernel_rfl
theorem cj8 : (Tryz.pinned.checked.prog.stopKnobs == []) = true := by kernel_rfl
theorem cj13 : (Rows.storeNilRow.maps == (Tryz.f3.params.toList ++ (OpenSpec.ofChange Rows.storeNilSpec).bare.plain.varTypes Tryz.pinned.checked.prog).any (Tryz.pinned.checked.prog.mapsRec ·)) = true := by kernel_rfl
theorem cj14 : (Rows.storeNilRow.ifaces == (Tryz.f3.params.toList ++ (OpenSpec.ofChange Rows.storeNilSpec).bare.plain.varTypes Tryz.pinned.checked.prog).any (Tryz.pinned.checked.prog.ifacesRec ·)) = true := by kernel_rfl
theorem cj15 : (Rows.storeNilRow.mapsOut == Tryz.pinned.checked.prog.mapsAmong Tryz.f3.resultTypes.toList) = true := by kernel_rfl
theorem cj16 : (Rows.storeNilRow.loops == (Tryz.f3.params.toList ++ (OpenSpec.ofChange Rows.storeNilSpec).bare.plain.varTypes Tryz.pinned.checked.prog).any (Tryz.pinned.checked.prog.loopsFrom ·)) = true := by kernel_rfl
theorem cj17 : (Rows.storeNilRow.wideKeys == (Tryz.f3.params.toList ++ (OpenSpec.ofChange Rows.storeNilSpec).bare.plain.varTypes Tryz.pinned.checked.prog ++ Tryz.f3.resultTypes.toList).any (Tryz.pinned.checked.prog.wideKeysFrom ·)) = true := by kernel_rfl
theorem cj18 : (OpenSpec.ofChange Rows.storeNilSpec).bare.vars.all (Tryz.pinned.checked.prog.varReadable ·) = true := by kernel_rfl
theorem cj19 : Tryz.f3.resultTypes.all (fun t => Tryz.pinned.checked.prog.readableRec t && decide (t < Tryz.pinned.checked.prog.types.size)) = true := by kernel_rfl
theorem cj20 : (Rows.storeNilRow.ifacesOut == Tryz.f3.resultTypes.toList.any (Tryz.pinned.checked.prog.ifacesRec ·)) = true := by kernel_rfl
theorem cj21 : (Rows.storeNilRow.loopsOut == Tryz.f3.resultTypes.toList.any (Tryz.pinned.checked.prog.loopsFrom ·)) = true := by kernel_rfl
theorem cj22 : (Rows.storeNilRow.plainKeys == Tryz.pinned.checked.prog.plainKeys) = true := by kernel_rfl
theorem cj23 : Rows.storeNilRow.shortTexts.isNone = true := by kernel_rfl
theorem cj24 : Tryz.pinned.checked.prog.stopsHeard = true := by kernel_rfl
theorem cj25 : Tryz.pinned.checked.prog.mayEnter = true := by kernel_rfl
theorem cj26 : (Rows.storeNilRow.lifted == Tryz.pinned.checked.prog.liftsFinal) = true := by kernel_rfl
theorem cj27 : (Tryz.pinned.checked.prog.make == some Rows.storeNilRow.make) = true := by kernel_rfl
theorem cj28 : (Rows.storeNilRow.kinds == (if Rows.storeNilRow.domain.isEmpty then [] else Tryz.f3.params.toList.map fun t => match Tryz.pinned.checked.prog.underlying t with | some (.int k) => some k | _ => none)) = true := by kernel_rfl
theorem cj29 : (Rows.storeNilRow.pinned == Rows.storeNilRow.pinnedBy) = true := by kernel_rfl
theorem cj30 : (Rows.storeNilRow.veiled == (Tryz.f3.params.toList ++ (OpenSpec.ofChange Rows.storeNilSpec).bare.plain.varTypes Tryz.pinned.checked.prog ++ Tryz.f3.resultTypes.toList).any (Tryz.pinned.checked.prog.veiledRec ·)) = true := by kernel_rfl
theorem cj31 : Rows.storeNilRow.veiledFits Tryz.pinned.checked.prog Tryz.f3.params.toList (Tryz.f3.params.toList ++ (OpenSpec.ofChange Rows.storeNilSpec).bare.plain.varTypes Tryz.pinned.checked.prog ++ Tryz.f3.resultTypes.toList) = true := by kernel_rfl
end Go.Proofs.YtdjpokckamlccaaGreatDoor.storeNil
