/- strings.Repeat at this program. -/
import Derived.Test.YtphnkangpboplaaDoorChecked
import Derived.Test.YtphnkangpboplaaDoorK5
import Derived.Shelf.Strings.Repeat
namespace Go.Proofs.YtphnkangpboplaaDoor
open K
set_option linter.unusedVariables false

open Go.Shelf Go.Proofs Go.RowKit
def Tryd.laysRepeat_ren : Go.Shelf.Ren := ⟨fun | 105 => 12 | 212 => 20 | 99 => 21 | 165 => 22 | 166 => 23 | 170 => 24 | 169 => 25 | 263 => 30 | 264 => 31 | 206 => 32 | 240 => 33 | 241 => 34 | 276 => 37 | 277 => 38 | n => n, fun | 9 => 9 | 3 => 3 | 4 => 4 | 20 => 20 | 0 => 0 | 46 => 23 | 109 => 48 | 5 => 5 | 72 => 53 | 76 => 57 | 51 => 61 | 146 => 69 | 53 => 35 | 148 => 71 | 70 => 51 | 37 => 46 | 75 => 56 | 127 => 73 | 164 => 76 | 80 => 60 | n => n, fun | n => n⟩

theorem Tryd.laysRepeat : Go.Proofs.Lays.n105 Tryd.prog Tryd.laysRepeat_ren := {
  mixed := by kernel_rfl,
  f99 := Tryd.func21.trans (congrArg some (by kernel_rfl)),
  f105 := Tryd.func12.trans (congrArg some (by kernel_rfl)),
  f165 := Tryd.func22.trans (congrArg some (by kernel_rfl)),
  f166 := Tryd.func23.trans (congrArg some (by kernel_rfl)),
  f169 := Tryd.func25.trans (congrArg some (by kernel_rfl)),
  f170 := Tryd.func24.trans (congrArg some (by kernel_rfl)),
  f206 := Tryd.func32.trans (congrArg some (by kernel_rfl)),
  f212 := Tryd.func20.trans (congrArg some (by kernel_rfl)),
  f240 := Tryd.func33.trans (congrArg some (by kernel_rfl)),
  f241 := Tryd.func34.trans (congrArg some (by kernel_rfl)),
  f263 := Tryd.func30.trans (congrArg some (by kernel_rfl)),
  f264 := Tryd.func31.trans (congrArg some (by kernel_rfl)),
  f276 := Tryd.func37.trans (congrArg some (by kernel_rfl)),
  f277 := Tryd.func38.trans (congrArg some (by kernel_rfl)),
  t0 := Tryd.underlying0,
  a0 := Tryd.isAgg0,
  z0 := Tryd.sizeOf0,
  v0 := Tryd.zeroValue0,
  t3 := Tryd.underlying3,
  a3 := Tryd.isAgg3,
  z3 := Tryd.sizeOf3,
  v3 := Tryd.zeroValue3,
  t4 := Tryd.underlying4,
  a4 := Tryd.isAgg4,
  z4 := Tryd.sizeOf4,
  v4 := Tryd.zeroValue4,
  t5 := Tryd.underlying5,
  a5 := Tryd.isAgg5,
  z5 := Tryd.sizeOf5,
  v5 := Tryd.zeroValue5,
  t9 := Tryd.underlying9,
  a9 := Tryd.isAgg9,
  z9 := Tryd.sizeOf9,
  v9 := Tryd.zeroValue9,
  t20 := Tryd.underlying20,
  a20 := Tryd.isAgg20,
  z20 := Tryd.sizeOf20,
  v20 := Tryd.zeroValue20,
  t37 := Tryd.underlying46,
  a37 := Tryd.isAgg46,
  z37 := Tryd.sizeOf46,
  v37 := Tryd.zeroValue46,
  t46 := Tryd.underlying23,
  a46 := Tryd.isAgg23,
  z46 := Tryd.sizeOf23,
  v46 := Tryd.zeroValue23,
  t51 := Tryd.underlying61,
  a51 := Tryd.isAgg61,
  z51 := Tryd.sizeOf61,
  v51 := Tryd.zeroValue61,
  t53 := Tryd.underlying35,
  a53 := Tryd.isAgg35,
  z53 := Tryd.sizeOf35,
  v53 := Tryd.zeroValue35,
  t70 := Tryd.underlying51,
  a70 := Tryd.isAgg51,
  z70 := Tryd.sizeOf51,
  v70 := Tryd.zeroValue51,
  t72 := Tryd.underlying53,
  a72 := Tryd.isAgg53,
  z72 := Tryd.sizeOf53,
  v72 := Tryd.zeroValue53,
  t75 := Tryd.underlying56,
  a75 := Tryd.isAgg56,
  z75 := Tryd.sizeOf56,
  v75 := Tryd.zeroValue56,
  t76 := Tryd.underlying57,
  a76 := Tryd.isAgg57,
  z76 := Tryd.sizeOf57,
  v76 := Tryd.zeroValue57,
  t109 := Tryd.underlying48,
  a109 := Tryd.isAgg48,
  z109 := Tryd.sizeOf48,
  v109 := Tryd.zeroValue48,
  t127 := Tryd.underlying73,
  a127 := Tryd.isAgg73,
  z127 := Tryd.sizeOf73,
  v127 := Tryd.zeroValue73,
  t146 := Tryd.underlying69,
  a146 := Tryd.isAgg69,
  z146 := Tryd.sizeOf69,
  v146 := Tryd.zeroValue69,
  t148 := Tryd.underlying71,
  a148 := Tryd.isAgg71,
  z148 := Tryd.sizeOf71,
  v148 := Tryd.zeroValue71,
  t164 := Tryd.underlying76,
  a164 := Tryd.isAgg76,
  z164 := Tryd.sizeOf76,
  v164 := Tryd.zeroValue76 }

theorem repExtra : Builder.Extra Tryd.prog Tryd.laysRepeat_ren := {
  sizeBuilder := by kernel_rfl,
  liesBuilder := by kernel_rfl,
  t5 := Tryd.laysRepeat.t5,
  a5 := Tryd.laysRepeat.a5,
  z5 := Tryd.laysRepeat.z5,
  v5 := Tryd.laysRepeat.v5,
  infoByte := by kernel_rfl,
  cellsByte := by kernel_rfl,
  sizeByte := by kernel_rfl,
  neB5 := by decide }
theorem fRepeat : Tryd.laysRepeat_ren.f 105 = 12 := by kernel_rfl
/-- n times the letter a. -/
def aS (n : Nat) : ByteArray := ⟨(Lib.repeatL [97] n).toArray⟩
theorem aS_size (n : Nat) : (aS n).size = n := by
  show ((Lib.repeatL [97] n).toArray).size = n
  rw [List.size_toArray, Lib.repeatL_length]; simp
theorem rRepeat (n : Nat) (w : World) (hn : n ≤ 255) : Calls Tryd.prog 12 #[.string ⟨#[97]⟩, .int .i64 (n : Int)] w fun e w' => e = .returned (.string (aS n)) ∧ Ext [] w w' := by
  have h := Any.strings_Repeat Tryd.laysRepeat repExtra ⟨#[97]⟩ n w (by omega) (by show 1 * n ≤ _; omega)
  rw [fRepeat] at h
  exact h.mono fun e w' ⟨he, hb⟩ => ⟨he, ⟨hb.os, hb.tape, hb.output, hb.size, fun k hk _ => hb.block k hk⟩⟩

end Go.Proofs.YtphnkangpboplaaDoor
