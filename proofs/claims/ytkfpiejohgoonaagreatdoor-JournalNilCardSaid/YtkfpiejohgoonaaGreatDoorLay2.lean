/- slices.Sorted(maps.Keys(m)) at this program, keys of kind int: the layings of the library functions, and what they come to. -/
import Derived.Test.YtkfpiejohgoonaaGreatDoorChecked
import Derived.Test.YtkfpiejohgoonaaGreatDoorLay1
import Derived.Shelf.SortM.Plain
import Derived.Shelf.SortM.SortNone
namespace Go.Proofs.YtkfpiejohgoonaaGreatDoor
open Go.Shelf Go.Proofs

def L.keys89_ren : Go.Shelf.Ren := ⟨fun | 7 => 89 | 10 => 99 | n => n, fun | 23 => 63 | 26 => 3 | 3 => 27 | 28 => 57 | 0 => 0 | 27 => 56 | 33 => 79 | 4 => 4 | n => n, fun | n => n⟩

theorem L.keys89 : Go.Proofs.SlLaysZI.n7 Tryz.prog L.keys89_ren := {
  mixed := by kernel_rfl,
  f7 := ⟨Tryz.f89.name, by decide, Tryz.func89.trans (congrArg some (by kernel_rfl))⟩,
  f10 := ⟨Tryz.f99.name, by decide, Tryz.func99.trans (congrArg some (by kernel_rfl))⟩,
  t0 := Tryz.underlying0,
  a0 := Tryz.isAgg0,
  z0 := Tryz.sizeOf0,
  v0 := Tryz.zeroValue0,
  t4 := Tryz.underlying4,
  a4 := Tryz.isAgg4,
  z4 := Tryz.sizeOf4,
  v4 := Tryz.zeroValue4,
  t23 := Tryz.underlying63,
  a23 := Tryz.isAgg63,
  z23 := Tryz.sizeOf63,
  v23 := Tryz.zeroValue63,
  t26 := Tryz.underlying3,
  a26 := Tryz.isAgg3,
  z26 := Tryz.sizeOf3,
  v26 := Tryz.zeroValue3,
  t27 := Tryz.underlying56,
  a27 := Tryz.isAgg56,
  z27 := Tryz.sizeOf56,
  v27 := Tryz.zeroValue56,
  t28 := Tryz.underlying57,
  a28 := Tryz.isAgg57,
  z28 := Tryz.sizeOf57,
  v28 := Tryz.zeroValue57,
  t33 := Tryz.underlying79,
  a33 := Tryz.isAgg79,
  z33 := Tryz.sizeOf79,
  v33 := Tryz.zeroValue79 }

theorem L.sortedKeys89 : I.SortedKeys Tryz.prog 23 99 3 := I.sortedKeys_of L.keys89 L.sorted23 L.sorts23 (enters_of Tryz.func42 (by kernel_rfl) rfl)

end Go.Proofs.YtkfpiejohgoonaaGreatDoor
