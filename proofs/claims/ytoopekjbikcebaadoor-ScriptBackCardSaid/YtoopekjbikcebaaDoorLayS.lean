/- internal/strconv.small, numDigits, formatBase10 at this program: the layings of the library functions. -/
import Derived.Test.YtoopekjbikcebaaDoorChecked
import Derived.Shelf.Strconv.Itoa3
namespace Go.Proofs.YtoopekjbikcebaaDoor
open Go.Shelf Go.Proofs

def L.small_ren : Go.Shelf.Ren := ⟨fun | 283 => 36 | n => n, fun | 3 => 3 | 9 => 9 | 4 => 4 | n => n, fun | n => n⟩

theorem L.small : Go.Proofs.Lays.n283 Tryd.prog L.small_ren := {
  mixed := by kernel_rfl,
  f283 := Tryd.func36.trans (congrArg some (by kernel_rfl)),
  t3 := Tryd.underlying3,
  a3 := Tryd.isAgg3,
  z3 := Tryd.sizeOf3,
  v3 := Tryd.zeroValue3,
  t4 := Tryd.underlying4,
  a4 := Tryd.isAgg4,
  z4 := Tryd.sizeOf4,
  v4 := Tryd.zeroValue4,
  t9 := Tryd.underlying9,
  a9 := Tryd.isAgg9,
  z9 := Tryd.sizeOf9,
  v9 := Tryd.zeroValue9 }

def L.digits_ren : Go.Shelf.Ren := ⟨fun | 284 => 37 | 129 => 45 | 317 => 44 | 318 => 46 | n => n, fun | 53 => 62 | 3 => 3 | 212 => 89 | 0 => 0 | 4 => 4 | 46 => 92 | 5 => 5 | 9 => 9 | n => n, fun | 17 => 0 | n => n⟩

theorem L.digits : Go.Proofs.LaysM.n284 Tryd.prog L.digits_ren := {
  mixed := by kernel_rfl,
  f129 := Tryd.func45.trans (congrArg some (by kernel_rfl)),
  f284 := Tryd.func37.trans (congrArg some (by kernel_rfl)),
  f317 := Tryd.func44.trans (congrArg some (by kernel_rfl)),
  f318 := Tryd.func46.trans (congrArg some (by kernel_rfl)),
  t0 := Tryd.underlying0,
  a0 := Tryd.isAgg0,
  z0 := Tryd.sizeOf0,
  v0 := Tryd.zeroValue0,
  t3 := Tryd.underlying3,
  a3 := Tryd.isAgg3,
  z3 := Tryd.sizeOf3,
  v3 := Tryd.zeroValue3,
  t4 := Tryd.underlying4,
  a4 := Tryd.isAgg4,
  z4 := Tryd.sizeOf4,
  v4 := Tryd.zeroValue4,
  t5 := Tryd.underlying5,
  a5 := Tryd.isAgg5,
  z5 := Tryd.sizeOf5,
  v5 := Tryd.zeroValue5,
  t9 := Tryd.underlying9,
  a9 := Tryd.isAgg9,
  z9 := Tryd.sizeOf9,
  v9 := Tryd.zeroValue9,
  t46 := Tryd.underlying92,
  a46 := Tryd.isAgg92,
  z46 := Tryd.sizeOf92,
  v46 := Tryd.zeroValue92,
  t53 := Tryd.underlying62,
  a53 := Tryd.isAgg62,
  z53 := Tryd.sizeOf62,
  v53 := Tryd.zeroValue62,
  t212 := Tryd.underlying89,
  a212 := Tryd.isAgg89,
  z212 := Tryd.sizeOf89,
  v212 := Tryd.zeroValue89,
  g17 := by kernel_rfl,
  i0 := by kernel_rfl,
  i3 := by kernel_rfl,
  i4 := by kernel_rfl,
  i5 := by kernel_rfl,
  i9 := by kernel_rfl,
  i46 := by kernel_rfl,
  i53 := by kernel_rfl,
  i212 := by kernel_rfl,
  m17 := by kernel_rfl }

def L.base10_ren : Go.Shelf.Ren := ⟨fun | 285 => 38 | n => n, fun | 37 => 44 | 53 => 62 | 3 => 3 | 4 => 4 | 51 => 24 | 9 => 9 | 5 => 5 | 0 => 0 | n => n, fun | n => n⟩

theorem L.base10 : Go.Proofs.Lays.n285 Tryd.prog L.base10_ren := {
  mixed := by kernel_rfl,
  f285 := Tryd.func38.trans (congrArg some (by kernel_rfl)),
  t0 := Tryd.underlying0,
  a0 := Tryd.isAgg0,
  z0 := Tryd.sizeOf0,
  v0 := Tryd.zeroValue0,
  t3 := Tryd.underlying3,
  a3 := Tryd.isAgg3,
  z3 := Tryd.sizeOf3,
  v3 := Tryd.zeroValue3,
  t4 := Tryd.underlying4,
  a4 := Tryd.isAgg4,
  z4 := Tryd.sizeOf4,
  v4 := Tryd.zeroValue4,
  t5 := Tryd.underlying5,
  a5 := Tryd.isAgg5,
  z5 := Tryd.sizeOf5,
  v5 := Tryd.zeroValue5,
  t9 := Tryd.underlying9,
  a9 := Tryd.isAgg9,
  z9 := Tryd.sizeOf9,
  v9 := Tryd.zeroValue9,
  t37 := Tryd.underlying44,
  a37 := Tryd.isAgg44,
  z37 := Tryd.sizeOf44,
  v37 := Tryd.zeroValue44,
  t51 := Tryd.underlying24,
  a51 := Tryd.isAgg24,
  z51 := Tryd.sizeOf24,
  v51 := Tryd.zeroValue24,
  t53 := Tryd.underlying62,
  a53 := Tryd.isAgg62,
  z53 := Tryd.sizeOf62,
  v53 := Tryd.zeroValue62 }

end Go.Proofs.YtoopekjbikcebaaDoor
