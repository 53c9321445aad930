/- Texts on which the proof of this claim stands: Sha6, ShaM, I1, I2, I3, I4, I5, I6, I7, I8, IM, I9, I10, I11, I12, I13, I14, PkP, PkB, KD, PkD. -/
import Derived.Test.YtbeegepcdglcaaaGreatDoorRows
import Derived.Test.YtbeegepcdglcaaaGreatDoorP1
import Derived.WalkKit
import Derived.MapKept
import Derived.Stop.BytesEq
import Derived.Laws.StructEq
import Derived.Lib.Builder
import Derived.Lib.UnsafeStr
import Derived.Lib.Bytealg
import Derived.Test.YtbeegepcdglcaaaGreatDoorP3
import Derived.Below
import Derived.Deep.LoopGhost
import Derived.Sort.LoopGhostIn
import Derived.RangeFuncIn
import Derived.OrdersIn
import Derived.TacticsIn
import Derived.RangeFuncLeaves
namespace Go.Proofs.YtbeegepcdglcaaaGreatDoor
open K
set_option linter.unusedVariables false
theorem le_pow {b n : Nat} (h : n < 2 ^ b) : (n : Int) ≤ ((2 ^ b - 1 : Nat) : Int) := by omega
theorem tn_lt {x b : Nat} (h : x < 2 ^ b) : ((x : Int)).toNat < 2 ^ b := by rw [Int.toNat_natCast]; exact h
def rotl (x a b : Nat) : Nat := (x * a % 4294967296) ||| (x / b)
theorem rotl_lt {x a b : Nat} (h : x < 2 ^ 32) : rotl x a b < 2 ^ 32 :=
 Nat.or_lt_two_pow (Nat.mod_lt _ (by decide)) (Nat.lt_of_le_of_lt (Nat.div_le_self _ _) h)
set_option maxRecDepth 100000 in
theorem rot25 (x : Nat) (w : World) (hx : x < 2 ^ 32) :
  Calls Tryz.prog 101 #[.int .u32 (x : Int),.int .i64 (-7)] w fun e w' => e = .returned (.int .u32 (rotl x 33554432 128 : Int)) ∧ Ext [] w w' := by
 refine enter (vs := [.int .u32 (x : Int),.int .i64 (-7)]) [] [] [] Tryz.func101 rfl kr (HP.start w) ?_
 refine Rg [0,1] [] n0 trivial ?_
 refine Rg [0,5] [] (fun _ => [((0 ≤ (18446744073709551609 : Int) ∧ (18446744073709551609 : Int) ≤ 18446744073709551615) ∧ 0 ≤ (31 : Int) ∧ (31 : Int) ≤ 18446744073709551615)]) ⟨om,trivial⟩ ?_
 refine Rg [4] [] (fun _ => [(0 ≤ (25 : Int) ∧ 25 ≤ 32),(0 ≤ (7 : Int) ∧ 7 ≤ 32),((0 ≤ (((x : Int) * 33554432) % 4294967296) ∧ (((x : Int) * 33554432) % 4294967296) ≤ 4294967295) ∧ 0 ≤ ((x : Int) / 128) ∧ ((x : Int) / 128) ≤ 4294967295)]) ⟨om,om,om,trivial⟩ ?_
 refine Cfg.ret rfl (rs := [.tmp 4]) rfl [.int .u32 ((((((x : Int) * 33554432) % 4294967296)).toNat ||| (((x : Int) / 128)).toNat : Nat) : Int)] ⟨kr,trivial⟩ (fun w1 hp => ?_)
 refine ⟨?_,hp.ext⟩
 unfold rotl
 rw [show x * 33554432 % 4294967296 = ((x : Int) * 33554432 % 4294967296).toNat by omega,show x / 128 = ((x : Int) / 128).toNat by omega]
 rfl
set_option maxRecDepth 100000 in
theorem rot14 (x : Nat) (w : World) (hx : x < 2 ^ 32) :
  Calls Tryz.prog 101 #[.int .u32 (x : Int),.int .i64 (-18)] w fun e w' => e = .returned (.int .u32 (rotl x 16384 262144 : Int)) ∧ Ext [] w w' := by
 refine enter (vs := [.int .u32 (x : Int),.int .i64 (-18)]) [] [] [] Tryz.func101 rfl kr (HP.start w) ?_
 refine Rg [0,1] [] n0 trivial ?_
 refine Rg [0,5] [] (fun _ => [((0 ≤ (18446744073709551598 : Int) ∧ (18446744073709551598 : Int) ≤ 18446744073709551615) ∧ 0 ≤ (31 : Int) ∧ (31 : Int) ≤ 18446744073709551615)]) ⟨om,trivial⟩ ?_
 refine Rg [4] [] (fun _ => [(0 ≤ (14 : Int) ∧ 14 ≤ 32),(0 ≤ (18 : Int) ∧ 18 ≤ 32),((0 ≤ (((x : Int) * 16384) % 4294967296) ∧ (((x : Int) * 16384) % 4294967296) ≤ 4294967295) ∧ 0 ≤ ((x : Int) / 262144) ∧ ((x : Int) / 262144) ≤ 4294967295)]) ⟨om,om,om,trivial⟩ ?_
 refine Cfg.ret rfl (rs := [.tmp 4]) rfl [.int .u32 ((((((x : Int) * 16384) % 4294967296)).toNat ||| (((x : Int) / 262144)).toNat : Nat) : Int)] ⟨kr,trivial⟩ (fun w1 hp => ?_)
 refine ⟨?_,hp.ext⟩
 unfold rotl
 rw [show x * 16384 % 4294967296 = ((x : Int) * 16384 % 4294967296).toNat by omega,show x / 262144 = ((x : Int) / 262144).toNat by omega]
 rfl
set_option maxRecDepth 100000 in
theorem rot15 (x : Nat) (w : World) (hx : x < 2 ^ 32) :
  Calls Tryz.prog 101 #[.int .u32 (x : Int),.int .i64 (-17)] w fun e w' => e = .returned (.int .u32 (rotl x 32768 131072 : Int)) ∧ Ext [] w w' := by
 refine enter (vs := [.int .u32 (x : Int),.int .i64 (-17)]) [] [] [] Tryz.func101 rfl kr (HP.start w) ?_
 refine Rg [0,1] [] n0 trivial ?_
 refine Rg [0,5] [] (fun _ => [((0 ≤ (18446744073709551599 : Int) ∧ (18446744073709551599 : Int) ≤ 18446744073709551615) ∧ 0 ≤ (31 : Int) ∧ (31 : Int) ≤ 18446744073709551615)]) ⟨om,trivial⟩ ?_
 refine Rg [4] [] (fun _ => [(0 ≤ (15 : Int) ∧ 15 ≤ 32),(0 ≤ (17 : Int) ∧ 17 ≤ 32),((0 ≤ (((x : Int) * 32768) % 4294967296) ∧ (((x : Int) * 32768) % 4294967296) ≤ 4294967295) ∧ 0 ≤ ((x : Int) / 131072) ∧ ((x : Int) / 131072) ≤ 4294967295)]) ⟨om,om,om,trivial⟩ ?_
 refine Cfg.ret rfl (rs := [.tmp 4]) rfl [.int .u32 ((((((x : Int) * 32768) % 4294967296)).toNat ||| (((x : Int) / 131072)).toNat : Nat) : Int)] ⟨kr,trivial⟩ (fun w1 hp => ?_)
 refine ⟨?_,hp.ext⟩
 unfold rotl
 rw [show x * 32768 % 4294967296 = ((x : Int) * 32768 % 4294967296).toNat by omega,show x / 131072 = ((x : Int) / 131072).toNat by omega]
 rfl
set_option maxRecDepth 100000 in
theorem rot13 (x : Nat) (w : World) (hx : x < 2 ^ 32) :
  Calls Tryz.prog 101 #[.int .u32 (x : Int),.int .i64 (-19)] w fun e w' => e = .returned (.int .u32 (rotl x 8192 524288 : Int)) ∧ Ext [] w w' := by
 refine enter (vs := [.int .u32 (x : Int),.int .i64 (-19)]) [] [] [] Tryz.func101 rfl kr (HP.start w) ?_
 refine Rg [0,1] [] n0 trivial ?_
 refine Rg [0,5] [] (fun _ => [((0 ≤ (18446744073709551597 : Int) ∧ (18446744073709551597 : Int) ≤ 18446744073709551615) ∧ 0 ≤ (31 : Int) ∧ (31 : Int) ≤ 18446744073709551615)]) ⟨om,trivial⟩ ?_
 refine Rg [4] [] (fun _ => [(0 ≤ (13 : Int) ∧ 13 ≤ 32),(0 ≤ (19 : Int) ∧ 19 ≤ 32),((0 ≤ (((x : Int) * 8192) % 4294967296) ∧ (((x : Int) * 8192) % 4294967296) ≤ 4294967295) ∧ 0 ≤ ((x : Int) / 524288) ∧ ((x : Int) / 524288) ≤ 4294967295)]) ⟨om,om,om,trivial⟩ ?_
 refine Cfg.ret rfl (rs := [.tmp 4]) rfl [.int .u32 ((((((x : Int) * 8192) % 4294967296)).toNat ||| (((x : Int) / 524288)).toNat : Nat) : Int)] ⟨kr,trivial⟩ (fun w1 hp => ?_)
 refine ⟨?_,hp.ext⟩
 unfold rotl
 rw [show x * 8192 % 4294967296 = ((x : Int) * 8192 % 4294967296).toNat by omega,show x / 524288 = ((x : Int) / 524288).toNat by omega]
 rfl
set_option maxRecDepth 100000 in
theorem rot26 (x : Nat) (w : World) (hx : x < 2 ^ 32) :
  Calls Tryz.prog 101 #[.int .u32 (x : Int),.int .i64 (-6)] w fun e w' => e = .returned (.int .u32 (rotl x 67108864 64 : Int)) ∧ Ext [] w w' := by
 refine enter (vs := [.int .u32 (x : Int),.int .i64 (-6)]) [] [] [] Tryz.func101 rfl kr (HP.start w) ?_
 refine Rg [0,1] [] n0 trivial ?_
 refine Rg [0,5] [] (fun _ => [((0 ≤ (18446744073709551610 : Int) ∧ (18446744073709551610 : Int) ≤ 18446744073709551615) ∧ 0 ≤ (31 : Int) ∧ (31 : Int) ≤ 18446744073709551615)]) ⟨om,trivial⟩ ?_
 refine Rg [4] [] (fun _ => [(0 ≤ (26 : Int) ∧ 26 ≤ 32),(0 ≤ (6 : Int) ∧ 6 ≤ 32),((0 ≤ (((x : Int) * 67108864) % 4294967296) ∧ (((x : Int) * 67108864) % 4294967296) ≤ 4294967295) ∧ 0 ≤ ((x : Int) / 64) ∧ ((x : Int) / 64) ≤ 4294967295)]) ⟨om,om,om,trivial⟩ ?_
 refine Cfg.ret rfl (rs := [.tmp 4]) rfl [.int .u32 ((((((x : Int) * 67108864) % 4294967296)).toNat ||| (((x : Int) / 64)).toNat : Nat) : Int)] ⟨kr,trivial⟩ (fun w1 hp => ?_)
 refine ⟨?_,hp.ext⟩
 unfold rotl
 rw [show x * 67108864 % 4294967296 = ((x : Int) * 67108864 % 4294967296).toNat by omega,show x / 64 = ((x : Int) / 64).toNat by omega]
 rfl
set_option maxRecDepth 100000 in
theorem rot21 (x : Nat) (w : World) (hx : x < 2 ^ 32) :
  Calls Tryz.prog 101 #[.int .u32 (x : Int),.int .i64 (-11)] w fun e w' => e = .returned (.int .u32 (rotl x 2097152 2048 : Int)) ∧ Ext [] w w' := by
 refine enter (vs := [.int .u32 (x : Int),.int .i64 (-11)]) [] [] [] Tryz.func101 rfl kr (HP.start w) ?_
 refine Rg [0,1] [] n0 trivial ?_
 refine Rg [0,5] [] (fun _ => [((0 ≤ (18446744073709551605 : Int) ∧ (18446744073709551605 : Int) ≤ 18446744073709551615) ∧ 0 ≤ (31 : Int) ∧ (31 : Int) ≤ 18446744073709551615)]) ⟨om,trivial⟩ ?_
 refine Rg [4] [] (fun _ => [(0 ≤ (21 : Int) ∧ 21 ≤ 32),(0 ≤ (11 : Int) ∧ 11 ≤ 32),((0 ≤ (((x : Int) * 2097152) % 4294967296) ∧ (((x : Int) * 2097152) % 4294967296) ≤ 4294967295) ∧ 0 ≤ ((x : Int) / 2048) ∧ ((x : Int) / 2048) ≤ 4294967295)]) ⟨om,om,om,trivial⟩ ?_
 refine Cfg.ret rfl (rs := [.tmp 4]) rfl [.int .u32 ((((((x : Int) * 2097152) % 4294967296)).toNat ||| (((x : Int) / 2048)).toNat : Nat) : Int)] ⟨kr,trivial⟩ (fun w1 hp => ?_)
 refine ⟨?_,hp.ext⟩
 unfold rotl
 rw [show x * 2097152 % 4294967296 = ((x : Int) * 2097152 % 4294967296).toNat by omega,show x / 2048 = ((x : Int) / 2048).toNat by omega]
 rfl
set_option maxRecDepth 100000 in
theorem rot7 (x : Nat) (w : World) (hx : x < 2 ^ 32) :
  Calls Tryz.prog 101 #[.int .u32 (x : Int),.int .i64 (-25)] w fun e w' => e = .returned (.int .u32 (rotl x 128 33554432 : Int)) ∧ Ext [] w w' := by
 refine enter (vs := [.int .u32 (x : Int),.int .i64 (-25)]) [] [] [] Tryz.func101 rfl kr (HP.start w) ?_
 refine Rg [0,1] [] n0 trivial ?_
 refine Rg [0,5] [] (fun _ => [((0 ≤ (18446744073709551591 : Int) ∧ (18446744073709551591 : Int) ≤ 18446744073709551615) ∧ 0 ≤ (31 : Int) ∧ (31 : Int) ≤ 18446744073709551615)]) ⟨om,trivial⟩ ?_
 refine Rg [4] [] (fun _ => [(0 ≤ (7 : Int) ∧ 7 ≤ 32),(0 ≤ (25 : Int) ∧ 25 ≤ 32),((0 ≤ (((x : Int) * 128) % 4294967296) ∧ (((x : Int) * 128) % 4294967296) ≤ 4294967295) ∧ 0 ≤ ((x : Int) / 33554432) ∧ ((x : Int) / 33554432) ≤ 4294967295)]) ⟨om,om,om,trivial⟩ ?_
 refine Cfg.ret rfl (rs := [.tmp 4]) rfl [.int .u32 ((((((x : Int) * 128) % 4294967296)).toNat ||| (((x : Int) / 33554432)).toNat : Nat) : Int)] ⟨kr,trivial⟩ (fun w1 hp => ?_)
 refine ⟨?_,hp.ext⟩
 unfold rotl
 rw [show x * 128 % 4294967296 = ((x : Int) * 128 % 4294967296).toNat by omega,show x / 33554432 = ((x : Int) / 33554432).toNat by omega]
 rfl
set_option maxRecDepth 100000 in
theorem rot30 (x : Nat) (w : World) (hx : x < 2 ^ 32) :
  Calls Tryz.prog 101 #[.int .u32 (x : Int),.int .i64 (-2)] w fun e w' => e = .returned (.int .u32 (rotl x 1073741824 4 : Int)) ∧ Ext [] w w' := by
 refine enter (vs := [.int .u32 (x : Int),.int .i64 (-2)]) [] [] [] Tryz.func101 rfl kr (HP.start w) ?_
 refine Rg [0,1] [] n0 trivial ?_
 refine Rg [0,5] [] (fun _ => [((0 ≤ (18446744073709551614 : Int) ∧ (18446744073709551614 : Int) ≤ 18446744073709551615) ∧ 0 ≤ (31 : Int) ∧ (31 : Int) ≤ 18446744073709551615)]) ⟨om,trivial⟩ ?_
 refine Rg [4] [] (fun _ => [(0 ≤ (30 : Int) ∧ 30 ≤ 32),(0 ≤ (2 : Int) ∧ 2 ≤ 32),((0 ≤ (((x : Int) * 1073741824) % 4294967296) ∧ (((x : Int) * 1073741824) % 4294967296) ≤ 4294967295) ∧ 0 ≤ ((x : Int) / 4) ∧ ((x : Int) / 4) ≤ 4294967295)]) ⟨om,om,om,trivial⟩ ?_
 refine Cfg.ret rfl (rs := [.tmp 4]) rfl [.int .u32 ((((((x : Int) * 1073741824) % 4294967296)).toNat ||| (((x : Int) / 4)).toNat : Nat) : Int)] ⟨kr,trivial⟩ (fun w1 hp => ?_)
 refine ⟨?_,hp.ext⟩
 unfold rotl
 rw [show x * 1073741824 % 4294967296 = ((x : Int) * 1073741824 % 4294967296).toNat by omega,show x / 4 = ((x : Int) / 4).toNat by omega]
 rfl
set_option maxRecDepth 100000 in
theorem rot19 (x : Nat) (w : World) (hx : x < 2 ^ 32) :
  Calls Tryz.prog 101 #[.int .u32 (x : Int),.int .i64 (-13)] w fun e w' => e = .returned (.int .u32 (rotl x 524288 8192 : Int)) ∧ Ext [] w w' := by
 refine enter (vs := [.int .u32 (x : Int),.int .i64 (-13)]) [] [] [] Tryz.func101 rfl kr (HP.start w) ?_
 refine Rg [0,1] [] n0 trivial ?_
 refine Rg [0,5] [] (fun _ => [((0 ≤ (18446744073709551603 : Int) ∧ (18446744073709551603 : Int) ≤ 18446744073709551615) ∧ 0 ≤ (31 : Int) ∧ (31 : Int) ≤ 18446744073709551615)]) ⟨om,trivial⟩ ?_
 refine Rg [4] [] (fun _ => [(0 ≤ (19 : Int) ∧ 19 ≤ 32),(0 ≤ (13 : Int) ∧ 13 ≤ 32),((0 ≤ (((x : Int) * 524288) % 4294967296) ∧ (((x : Int) * 524288) % 4294967296) ≤ 4294967295) ∧ 0 ≤ ((x : Int) / 8192) ∧ ((x : Int) / 8192) ≤ 4294967295)]) ⟨om,om,om,trivial⟩ ?_
 refine Cfg.ret rfl (rs := [.tmp 4]) rfl [.int .u32 ((((((x : Int) * 524288) % 4294967296)).toNat ||| (((x : Int) / 8192)).toNat : Nat) : Int)] ⟨kr,trivial⟩ (fun w1 hp => ?_)
 refine ⟨?_,hp.ext⟩
 unfold rotl
 rw [show x * 524288 % 4294967296 = ((x : Int) * 524288 % 4294967296).toNat by omega,show x / 8192 = ((x : Int) / 8192).toNat by omega]
 rfl
set_option maxRecDepth 100000 in
theorem rot10 (x : Nat) (w : World) (hx : x < 2 ^ 32) :
  Calls Tryz.prog 101 #[.int .u32 (x : Int),.int .i64 (-22)] w fun e w' => e = .returned (.int .u32 (rotl x 1024 4194304 : Int)) ∧ Ext [] w w' := by
 refine enter (vs := [.int .u32 (x : Int),.int .i64 (-22)]) [] [] [] Tryz.func101 rfl kr (HP.start w) ?_
 refine Rg [0,1] [] n0 trivial ?_
 refine Rg [0,5] [] (fun _ => [((0 ≤ (18446744073709551594 : Int) ∧ (18446744073709551594 : Int) ≤ 18446744073709551615) ∧ 0 ≤ (31 : Int) ∧ (31 : Int) ≤ 18446744073709551615)]) ⟨om,trivial⟩ ?_
 refine Rg [4] [] (fun _ => [(0 ≤ (10 : Int) ∧ 10 ≤ 32),(0 ≤ (22 : Int) ∧ 22 ≤ 32),((0 ≤ (((x : Int) * 1024) % 4294967296) ∧ (((x : Int) * 1024) % 4294967296) ≤ 4294967295) ∧ 0 ≤ ((x : Int) / 4194304) ∧ ((x : Int) / 4194304) ≤ 4294967295)]) ⟨om,om,om,trivial⟩ ?_
 refine Cfg.ret rfl (rs := [.tmp 4]) rfl [.int .u32 ((((((x : Int) * 1024) % 4294967296)).toNat ||| (((x : Int) / 4194304)).toNat : Nat) : Int)] ⟨kr,trivial⟩ (fun w1 hp => ?_)
 refine ⟨?_,hp.ext⟩
 unfold rotl
 rw [show x * 1024 % 4294967296 = ((x : Int) * 1024 % 4294967296).toNat by omega,show x / 4194304 = ((x : Int) / 4194304).toNat by omega]
 rfl
end Go.Proofs.YtbeegepcdglcaaaGreatDoor
namespace Go.Proofs.YtbeegepcdglcaaaGreatDoor
open K
set_option linter.unusedVariables false
def stC (hs : List Nat) (bl : List UInt8) (held total : Nat) : Array Value := ((wv hs).toList ++ ((bv bl).toList ++ [Value.int .i64 (held : Int),Value.int .u64 (total : Int)])).toArray
theorem wlen {hs : List Nat} {n : Nat} (h : hs.length = n) : (wv hs).toList.length = n := by rw [Array.length_toList,wv_size,h]
theorem blen {hs : List UInt8} {n : Nat} (h : hs.length = n) : (bv hs).toList.length = n := by rw [Array.length_toList,bv_size,h]
section
variable {hs : List Nat} {bl : List UInt8} {held total : Nat}
theorem st_size (hh : hs.length = 8) (hb : bl.length = 64) : (stC hs bl held total).size = 74 := by
 have h1 := wlen hh; have h2 := blen hb
 simp only [stC,List.size_toArray,List.length_append,h1,h2]; rfl
theorem st_sum (hh : hs.length = 8) {k : Nat} (hk : k < 8) : (stC hs bl held total)[k]? = some (.int .u32 ((hs.getD k 0 : Nat) : Int)) := by
 have h1 := wv_get hh hk
 have h2 := wlen hh
 rw [← Array.getElem?_toList] at h1
 simp only [stC,List.getElem?_toArray]
 rw [List.getElem?_append_left om,h1]
theorem st_byte (hh : hs.length = 8) (hb : bl.length = 64) {j : Nat} (hj : j < 64) : (stC hs bl held total)[8 + j]? = some (.int .u8 ((bl.getD j 0).toNat : Int)) := by
 have h1 := bv_get hb hj
 have h2 := wlen hh; have h3 := blen hb
 rw [← Array.getElem?_toList] at h1
 simp only [stC,List.getElem?_toArray]
 rw [List.getElem?_append_right om,h2,show 8 + j - 8 = j by omega,List.getElem?_append_left om,h1]
theorem st_held (hh : hs.length = 8) (hb : bl.length = 64) : (stC hs bl held total)[72]? = some (.int .i64 (held : Int)) := by
 have h2 := wlen hh; have h3 := blen hb
 simp only [stC,List.getElem?_toArray]
 rw [List.getElem?_append_right om,h2,List.getElem?_append_right om,h3]; rfl
theorem st_total (hh : hs.length = 8) (hb : bl.length = 64) : (stC hs bl held total)[73]? = some (.int .u64 (total : Int)) := by
 have h2 := wlen hh; have h3 := blen hb
 simp only [stC,List.getElem?_toArray]
 rw [List.getElem?_append_right om,h2,List.getElem?_append_right om,h3]; rfl
theorem st_setSum (hh : hs.length = 8) {k : Nat} (hk : k < 8) {x : Int} (hx : 0 ≤ x) : (stC hs bl held total).setIfInBounds k (.int .u32 x) = stC (hs.set k x.toNat) bl held total := by
 have h1 := wv_set (l := hs) (i := k) hx
 have h2 := wlen hh
 apply Array.ext'
 simp only [stC,List.setIfInBounds_toArray]
 rw [List.set_append_left _ _ om,← h1,Array.toList_setIfInBounds]
theorem st_setHeld (hh : hs.length = 8) (hb : bl.length = 64) {n : Nat} {x : Int} (hx : x = (n : Int)) : (stC hs bl held total).setIfInBounds 72 (.int .i64 x) = stC hs bl n total := by
 subst hx
 have h2 := wlen hh; have h3 := blen hb
 apply Array.ext'
 simp only [stC,List.setIfInBounds_toArray]
 rw [List.set_append_right _ _ om,h2,List.set_append_right _ _ om,h3]; rfl
theorem st_setTotal (hh : hs.length = 8) (hb : bl.length = 64) {n : Nat} {x : Int} (hx : x = (n : Int)) : (stC hs bl held total).setIfInBounds 73 (.int .u64 x) = stC hs bl held n := by
 subst hx
 have h2 := wlen hh; have h3 := blen hb
 apply Array.ext'
 simp only [stC,List.setIfInBounds_toArray]
 rw [List.set_append_right _ _ om,h2,List.set_append_right _ _ om,h3]; rfl
end
def be4 (a b c d : Nat) : Nat := (((a * 16777216 % 4294967296) ||| (b * 65536 % 4294967296)) ||| (c * 256 % 4294967296)) ||| d
theorem m24 (n : Nat) : ((n : Int) * 16777216 % 4294967296).toNat = n * 16777216 % 4294967296 := by omega
theorem m16 (n : Nat) : ((n : Int) * 65536 % 4294967296).toNat = n * 65536 % 4294967296 := by omega
theorem m8 (n : Nat) : ((n : Int) * 256 % 4294967296).toNat = n * 256 % 4294967296 := by omega
theorem d10 (n : Nat) : ((n : Int) / 1024).toNat = n / 1024 := by omega
theorem d3 (n : Nat) : ((n : Int) / 8).toNat = n / 8 := by omega
theorem be4_eq (a b c d : Nat) : (((((((((((((a : Nat) : Int) * 16777216) % 4294967296)).toNat ||| (((((b : Nat) : Int) * 65536) % 4294967296)).toNat : Nat) : Int)).toNat ||| (((((c : Nat) : Int) * 256) % 4294967296)).toNat : Nat) : Int)).toNat ||| ((((d : Nat) : Int))).toNat : Nat) : Int) = ((be4 a b c d : Nat) : Int) := by
 unfold be4
 rw [m24,m16,m8,Int.toNat_natCast,Int.toNat_natCast,Int.toNat_natCast]
def bt4 (bl : List UInt8) (i : Nat) : Nat := (bl.getD i 0).toNat
def shBe (bl : List UInt8) (t : Nat) : Nat := be4 (bt4 bl (4 * t)) (bt4 bl (4 * t + 1)) (bt4 bl (4 * t + 2)) (bt4 bl (4 * t + 3))
def wlow (x : Nat) : Nat := (rotl x 33554432 128 ^^^ rotl x 16384 262144) ^^^ (x / 8)
def whigh (x : Nat) : Nat := (rotl x 32768 131072 ^^^ rotl x 8192 524288) ^^^ (x / 1024)
theorem x3 (p q r : Nat) (c : Int) (h : c.toNat = r) : ((((((p : Nat) : Int)).toNat ^^^ (((q : Nat) : Int)).toNat : Nat) : Int)).toNat ^^^ c.toNat = (p ^^^ q) ^^^ r := by rw [h]; rfl
theorem wsum (a b c d : Nat) : ((((((a : Int) + (b : Int)) % 4294967296) + (c : Int)) % 4294967296) + (d : Int)) % 4294967296 = (((((a + b) % 4294967296 + c) % 4294967296 + d) % 4294967296 : Nat) : Int) := by omega
def wn4 (y x7 x x16 : Nat) : Nat := (((whigh y + x7) % 4294967296 + wlow x) % 4294967296 + x16) % 4294967296
theorem wn_eq (y x7 x x16 : Nat) : (((((((((((rotl y 32768 131072 : Int)).toNat ^^^ ((rotl y 8192 524288 : Int)).toNat : Nat) : Int)).toNat ^^^ (((y : Int) / 1024)).toNat : Nat) : Int) + (x7 : Int)) % 4294967296) + (((((((rotl x 33554432 128 : Int)).toNat ^^^ ((rotl x 16384 262144 : Int)).toNat : Nat) : Int)).toNat ^^^ (((x : Int) / 8)).toNat : Nat) : Int)) % 4294967296 + (x16 : Int)) % 4294967296 = ((wn4 y x7 x x16 : Nat) : Int) := by
 rw [x3 _ _ _ _ (d10 y),x3 _ _ _ _ (d3 x)]
 exact wsum (whigh y) x7 (wlow x) x16
def rg (r : List Nat) (i : Nat) : Nat := r.getD i 0
def wnext (bl : List UInt8) (r : List Nat) (t : Nat) : Nat := if t < 16 then shBe bl t else wn4 (rg r (t - 2)) (rg r (t - 7)) (rg r (t - 15)) (rg r (t - 16))
def row (bl : List UInt8) : Nat → List Nat
 | 0 => List.replicate 64 0
 | t + 1 => (row bl t).set t (wnext bl (row bl t) t)
theorem row_len (bl : List UInt8) : ∀ t,(row bl t).length = 64
 | 0 => by simp [row]
 | t + 1 => by rw [row,List.length_set]; exact row_len bl t
theorem b8 (b : UInt8) : b.toNat < 2 ^ 32 := by have := UInt8.toNat_lt b; omega
theorem bt4_lt (bl : List UInt8) (i : Nat) : bt4 bl i < 256 := UInt8.toNat_lt _
theorem b84 (bl : List UInt8) (i : Nat) : bt4 bl i < 2 ^ 32 := b8 _
theorem be_lt (bl : List UInt8) (t : Nat) : shBe bl t < 2 ^ 32 :=
 Nat.or_lt_two_pow (Nat.or_lt_two_pow (Nat.or_lt_two_pow (Nat.mod_lt _ (by decide)) (Nat.mod_lt _ (by decide))) (Nat.mod_lt _ (by decide))) (b84 _ _)
theorem wnext_lt (bl : List UInt8) (r : List Nat) (t : Nat) : wnext bl r t < 2 ^ 32 := by
 unfold wnext
 split
 ·exact be_lt ..
 ·exact Nat.mod_lt _ (by decide)
theorem row_lt (bl : List UInt8) : ∀ t j,rg (row bl t) j < 2 ^ 32
 | 0,j => by
  simp only [rg,row,List.getD_eq_getElem?_getD,List.getElem?_replicate]
  split <;> simp
 | t + 1,j => by
  have ih := row_lt bl t j
  simp only [rg,row,List.getD_eq_getElem?_getD,List.getElem?_set] at *
  split
  ·split
   ·exact wnext_lt ..
   ·simp
  ·exact ih
theorem row_step (bl : List UInt8) (t : Nat) {x : Int} (hx : x = (wnext bl (row bl t) t : Int)) : (wv (row bl t)).setIfInBounds t (.int .u32 x) = wv (row bl (t + 1)) := by
 subst hx
 rw [wv_set om]
 rfl
theorem wnext_lo {bl : List UInt8} {t : Nat} (h : t < 16) {x : Int} (hx : x = ((shBe bl t : Nat) : Int)) : x = (wnext bl (row bl t) t : Int) := by rw [hx]; unfold wnext; rw [if_pos h]
theorem wnext_hi {bl : List UInt8} {t : Nat} (h : 16 ≤ t) {x : Int} (hx : x = ((wn4 (rg (row bl t) (t - 2)) (rg (row bl t) (t - 7)) (rg (row bl t) (t - 15)) (rg (row bl t) (t - 16)) : Nat) : Int)) : x = (wnext bl (row bl t) t : Int) := by rw [hx]; unfold wnext; rw [if_neg (by omega)]
theorem wsize (bl : List UInt8) (t : Nat) : (wv (row bl t)).size = 64 := by rw [wv_size,row_len]
end Go.Proofs.YtbeegepcdglcaaaGreatDoor
namespace Go.Proofs.YtbeegepcdglcaaaGreatDoor
open K
set_option linter.unusedVariables false
def Kc : List Nat := [1116352408,1899447441,3049323471,3921009573,961987163,1508970993,2453635748,2870763221,3624381080,310598401,607225278,1426881987,1925078388,2162078206,2614888103,3248222580,3835390401,4022224774,264347078,604807628,770255983,1249150122,1555081692,1996064986,2554220882,2821834349,2952996808,3210313671,3336571891,3584528711,113926993,338241895,666307205,773529912,1294757372,1396182291,1695183700,1986661051,2177026350,2456956037,2730485921,2820302411,3259730800,3345764771,3516065817,3600352804,4094571909,275423344,430227734,506948616,659060556,883997877,958139571,1322822218,1537002063,1747873779,1955562222,2024104815,2227730452,2361852424,2428436474,2756734187,3204031479,3329325298]
structure W8 where
 a : Nat
 b : Nat
 c : Nat
 d : Nat
 e : Nat
 f : Nat
 g : Nat
 h : Nat
structure W8.Ok (s : W8) : Prop where
 a : s.a < 2 ^ 32
 b : s.b < 2 ^ 32
 c : s.c < 2 ^ 32
 d : s.d < 2 ^ 32
 e : s.e < 2 ^ 32
 f : s.f < 2 ^ 32
 g : s.g < 2 ^ 32
 h : s.h < 2 ^ 32
def bigE (x : Nat) : Nat := (rotl x 67108864 64 ^^^ rotl x 2097152 2048) ^^^ rotl x 128 33554432
def bigA (x : Nat) : Nat := (rotl x 1073741824 4 ^^^ rotl x 524288 8192) ^^^ rotl x 1024 4194304
def choi (e f g : Nat) : Nat := (e &&& f) ^^^ ((4294967295 ^^^ e) &&& g)
def most (a b c : Nat) : Nat := ((a &&& b) ^^^ (a &&& c)) ^^^ (b &&& c)
def fst5 (h x c k w : Nat) : Nat := ((((h + x) % 4294967296 + c) % 4294967296 + k) % 4294967296 + w) % 4294967296
def frst (k w : Nat) (s : W8) : Nat := fst5 s.h (bigE s.e) (choi s.e s.f s.g) k w
def scnd (s : W8) : Nat := (bigA s.a + most s.a s.b s.c) % 4294967296
def rnd (k w : Nat) (s : W8) : W8 := ⟨(frst k w s + scnd s) % 4294967296,s.a,s.b,s.c,(s.d + frst k w s) % 4294967296,s.e,s.f,s.g⟩
def w8 (l : List Nat) : W8 := ⟨rg l 0,rg l 1,rg l 2,rg l 3,rg l 4,rg l 5,rg l 6,rg l 7⟩
def w8l (s : W8) : List Nat := [s.a,s.b,s.c,s.d,s.e,s.f,s.g,s.h]
def rv (hs : List Nat) (bl : List UInt8) : Nat → W8
 | 0 => w8 hs
 | t + 1 => rnd (rg Kc t) (rg (row bl 64) t) (rv hs bl t)
theorem rv_ok {hs : List Nat} (hlt : ∀ i,rg hs i < 2 ^ 32) (bl : List UInt8) : ∀ t,(rv hs bl t).Ok
 | 0 => ⟨hlt 0,hlt 1,hlt 2,hlt 3,hlt 4,hlt 5,hlt 6,hlt 7⟩
 | t + 1 => by
  have ih := rv_ok hlt bl t
  exact ⟨Nat.mod_lt _ (by decide),ih.a,ih.b,ih.c,Nat.mod_lt _ (by decide),ih.e,ih.f,ih.g⟩
theorem add32 (x y : Nat) : ((x : Int) + (y : Int)) % 4294967296 = (((x + y) % 4294967296 : Nat) : Int) := by omega
theorem fst5_eq (h x c k w : Nat) : ((((((((h : Int) + (x : Int)) % 4294967296) + (c : Int)) % 4294967296) + (k : Int)) % 4294967296) + (w : Int)) % 4294967296 = ((fst5 h x c k w : Nat) : Int) := by unfold fst5; omega
def sm (hs vs : List Nat) : Nat → List Nat
 | 0 => hs
 | k + 1 => (sm hs vs k).set k ((rg (sm hs vs k) k + rg vs k) % 4294967296)
theorem sm_len {hs : List Nat} (vs : List Nat) (hh : hs.length = 8) : ∀ k,(sm hs vs k).length = 8
 | 0 => hh
 | k + 1 => by rw [sm,List.length_set]; exact sm_len vs hh k
theorem sm_lt {hs : List Nat} (vs : List Nat) (hlt : ∀ i,rg hs i < 2 ^ 32) : ∀ k i,rg (sm hs vs k) i < 2 ^ 32
 | 0,i => hlt i
 | k + 1,i => by
  have ih := sm_lt vs hlt k i
  simp only [rg,sm,List.getD_eq_getElem?_getD,List.getElem?_set] at *
  split
  ·split
   ·exact Nat.mod_lt _ (by decide)
   ·simp
  ·exact ih
def mixF (hs : List Nat) (bl : List UInt8) : List Nat := sm hs (w8l (rv hs bl 64)) 8
theorem sm_step {hs vs : List Nat} {bl : List UInt8} {held total k : Nat} (hh : hs.length = 8) (hk : k < 8) :
  (stC (sm hs vs k) bl held total).setIfInBounds k (.int .u32 (((rg (sm hs vs k) k : Int) + (rg vs k : Int)) % 4294967296)) = stC (sm hs vs (k + 1)) bl held total := by
 rw [add32,st_setSum (sm_len vs hh k) hk om,Int.toNat_natCast]
 rfl
theorem xx3 (p q r : Nat) : ((((((((p : Nat) : Int)).toNat ^^^ (((q : Nat) : Int)).toNat : Nat) : Int)).toNat ^^^ (((r : Nat) : Int)).toNat : Nat) : Int) = (((p ^^^ q) ^^^ r : Nat) : Int) := rfl
theorem cc4 (m e f g : Nat) : (((((((e : Nat) : Int)).toNat &&& (((f : Nat) : Int)).toNat : Nat) : Int)).toNat ^^^ ((((((m ^^^ (((e : Nat) : Int)).toNat : Nat) : Int)).toNat &&& (((g : Nat) : Int)).toNat : Nat) : Int)).toNat : Nat) = (((e &&& f) ^^^ ((m ^^^ e) &&& g) : Nat) : Int) := rfl
theorem bigE_eq (x : Nat) : ((((((rotl x 67108864 64 : Int)).toNat ^^^ ((rotl x 2097152 2048 : Int)).toNat : Nat) : Int)).toNat ^^^ ((rotl x 128 33554432 : Int)).toNat : Nat) = ((bigE x : Nat) : Int) := by unfold bigE; exact xx3 _ _ _
theorem bigA_eq (x : Nat) : ((((((rotl x 1073741824 4 : Int)).toNat ^^^ ((rotl x 524288 8192 : Int)).toNat : Nat) : Int)).toNat ^^^ ((rotl x 1024 4194304 : Int)).toNat : Nat) = ((bigA x : Nat) : Int) := by unfold bigA; exact xx3 _ _ _
theorem choi_eq (e f g : Nat) : (((((((e : Nat) : Int)).toNat &&& (((f : Nat) : Int)).toNat : Nat) : Int)).toNat ^^^ ((((((4294967295 ^^^ (((e : Nat) : Int)).toNat : Nat) : Int)).toNat &&& (((g : Nat) : Int)).toNat : Nat) : Int)).toNat : Nat) = ((choi e f g : Nat) : Int) := by unfold choi; exact cc4 _ _ _ _
theorem most_eq (a b c : Nat) : ((((((((((a : Int)).toNat &&& ((b : Int)).toNat : Nat) : Int)).toNat ^^^ (((((a : Int)).toNat &&& ((c : Int)).toNat : Nat) : Int)).toNat : Nat) : Int)).toNat ^^^ (((((b : Int)).toNat &&& ((c : Int)).toNat : Nat) : Int)).toNat : Nat) : Int) = ((most a b c : Nat) : Int) := rfl
theorem frst_eq (k w : Nat) (s : W8) : ((((((((s.h : Int) + (bigE s.e : Int)) % 4294967296) + (choi s.e s.f s.g : Int)) % 4294967296) + (k : Int)) % 4294967296) + (w : Int)) % 4294967296 = ((frst k w s : Nat) : Int) := by unfold frst; exact fst5_eq _ _ _ _ _
theorem scnd_eq (s : W8) : ((bigA s.a : Int) + (most s.a s.b s.c : Int)) % 4294967296 = ((scnd s : Nat) : Int) := by unfold scnd; exact add32 _ _
theorem rv_succ (hs : List Nat) (bl : List UInt8) (t : Nat) : rv hs bl (t + 1) = rnd (rg Kc t) (rg (row bl 64) t) (rv hs bl t) := rfl
theorem rnd_def (k w : Nat) (s : W8) : rnd k w s = ⟨(frst k w s + scnd s) % 4294967296,s.a,s.b,s.c,(s.d + frst k w s) % 4294967296,s.e,s.f,s.g⟩ := rfl
section
variable (a b c d e f g h : Nat)
theorem pa : (W8.mk a b c d e f g h).a = a := rfl
theorem pb : (W8.mk a b c d e f g h).b = b := rfl
theorem pc : (W8.mk a b c d e f g h).c = c := rfl
theorem pd : (W8.mk a b c d e f g h).d = d := rfl
theorem pe : (W8.mk a b c d e f g h).e = e := rfl
theorem pf : (W8.mk a b c d e f g h).f = f := rfl
theorem pg : (W8.mk a b c d e f g h).g = g := rfl
theorem ph : (W8.mk a b c d e f g h).h = h := rfl
end
section
variable (hs : List Nat) (bl : List UInt8) (t : Nat)
theorem rv_a : ((frst (rg Kc t) (rg (row bl 64) t) (rv hs bl t) : Int) + (scnd (rv hs bl t) : Int)) % 4294967296 = ((rv hs bl (t + 1)).a : Int) := by rw [rv_succ,rnd_def,pa,add32]
theorem rv_b : ((rv hs bl t).a : Int) = ((rv hs bl (t + 1)).b : Int) := by rw [rv_succ,rnd_def,pb]
theorem rv_c : ((rv hs bl t).b : Int) = ((rv hs bl (t + 1)).c : Int) := by rw [rv_succ,rnd_def,pc]
theorem rv_d : ((rv hs bl t).c : Int) = ((rv hs bl (t + 1)).d : Int) := by rw [rv_succ,rnd_def,pd]
theorem rv_e : (((rv hs bl t).d : Int) + (frst (rg Kc t) (rg (row bl 64) t) (rv hs bl t) : Int)) % 4294967296 = ((rv hs bl (t + 1)).e : Int) := by rw [rv_succ,rnd_def,pe,add32]
theorem rv_f : ((rv hs bl t).e : Int) = ((rv hs bl (t + 1)).f : Int) := by rw [rv_succ,rnd_def,pf]
theorem rv_g : ((rv hs bl t).f : Int) = ((rv hs bl (t + 1)).g : Int) := by rw [rv_succ,rnd_def,pg]
theorem rv_h : ((rv hs bl t).g : Int) = ((rv hs bl (t + 1)).h : Int) := by rw [rv_succ,rnd_def,ph]
end
theorem w8l_len (s : W8) : (w8l s).length = 8 := rfl
def KT (kt : Array Value) : Prop := ∀ t,t < 64 → kt[t]? = some (.int .u32 (rg Kc t : Int))
theorem kget {t : Nat} (h : t < 64) : (wv Kc)[t]? = some (.int .u32 (rg Kc t : Int)) := wv_get (n := 64) rfl h
end Go.Proofs.YtbeegepcdglcaaaGreatDoor
namespace Go.Proofs.YtbeegepcdglcaaaGreatDoor
open K
set_option linter.unusedVariables false
structure Sh where
 hs : List Nat
 bl : List UInt8
 held : Nat
structure Sh.Ok (s : Sh) : Prop where
 hh : s.hs.length = 8
 hb : s.bl.length = 64
 hlt : ∀ i,rg s.hs i < 2 ^ 32
 held : s.held < 64
theorem mixF_len {hs : List Nat} (bl : List UInt8) (hh : hs.length = 8) : (mixF hs bl).length = 8 := sm_len _ hh 8
theorem mixF_lt {hs : List Nat} (bl : List UInt8) (hlt : ∀ i,rg hs i < 2 ^ 32) : ∀ i,rg (mixF hs bl) i < 2 ^ 32 := sm_lt _ hlt 8
def feedB (s : Sh) (c : UInt8) : Sh := if s.held + 1 = 64 then ⟨mixF s.hs (s.bl.set s.held c),s.bl.set s.held c,0⟩ else ⟨s.hs,s.bl.set s.held c,s.held + 1⟩
def feed (s : Sh) (l : List UInt8) : Sh := l.foldl feedB s
theorem feed_nil (s : Sh) : feed s [] = s := rfl
theorem feed_app (s : Sh) (a b : List UInt8) : feed s (a ++ b) = feed (feed s a) b := List.foldl_append ..
theorem feedB_ok {s : Sh} (h : s.Ok) (c : UInt8) : (feedB s c).Ok := by
 unfold feedB
 split
 ·exact ⟨mixF_len _ h.hh,by simp [h.hb],mixF_lt _ h.hlt,Nat.zero_lt_succ 63⟩
 ·have := h.held
  exact ⟨h.hh,by simp [h.hb],h.hlt,by show s.held + 1 < 64; omega⟩
theorem feed_ok : ∀ (l : List UInt8) {s : Sh},s.Ok → (feed s l).Ok
 | [],s,h => h
 | c :: l,s,h => feed_ok l (feedB_ok h c)
theorem feedB_held {s : Sh} (h : s.Ok) (c : UInt8) : (feedB s c).held = (s.held + 1) % 64 := by
 have := h.held
 unfold feedB
 split <;> simp only <;> omega
theorem feed_held : ∀ (l : List UInt8) {s : Sh},s.Ok → (feed s l).held = (s.held + l.length) % 64
 | [],s,h => by have := h.held; show s.held = (s.held + 0) % 64; omega
 | c :: l,s,h => by
  have e := feed_held l (feedB_ok h c)
  rw [feedB_held h c] at e
  show (feed (feedB s c) l).held = _
  rw [e,List.length_cons]; omega
def lay (bl : List UInt8) (off : Nat) : List UInt8 → List UInt8
 | [] => bl
 | c :: l => lay (bl.set off c) (off + 1) l
theorem lay_len : ∀ (l bl : List UInt8) (off : Nat),(lay bl off l).length = bl.length
 | [],bl,off => rfl
 | c :: l,bl,off => by rw [lay,lay_len l,List.length_set]
theorem feed_part : ∀ (l : List UInt8) (hs : List Nat) (bl : List UInt8) (held : Nat),held + l.length < 64 → feed ⟨hs,bl,held⟩ l = ⟨hs,lay bl held l,held + l.length⟩
 | [],hs,bl,held,_ => rfl
 | c :: l,hs,bl,held,h => by
  rw [List.length_cons] at h
  have e : feedB ⟨hs,bl,held⟩ c = ⟨hs,bl.set held c,held + 1⟩ := by unfold feedB; rw [if_neg (by show ¬ held + 1 = 64; omega)]
  show feed (feedB ⟨hs,bl,held⟩ c) l = _
  rw [e,feed_part l hs (bl.set held c) (held + 1) om,lay,List.length_cons,show held + 1 + l.length = held + (l.length + 1) by omega]
theorem feed_full : ∀ (l : List UInt8) (hs : List Nat) (bl : List UInt8) (held : Nat),held < 64 → held + l.length = 64 → feed ⟨hs,bl,held⟩ l = ⟨mixF hs (lay bl held l),lay bl held l,0⟩
 | [],hs,bl,held,h0,h => by simp at h; omega
 | c :: l,hs,bl,held,h0,h => by
  rw [List.length_cons] at h
  show feed (feedB ⟨hs,bl,held⟩ c) l = _
  by_cases hl : held + 1 = 64
  ·obtain rfl : l = [] := List.eq_nil_of_length_eq_zero om
   unfold feedB; rw [if_pos hl]; rfl
  ·have e : feedB ⟨hs,bl,held⟩ c = ⟨hs,bl.set held c,held + 1⟩ := by unfold feedB; rw [if_neg hl]
   rw [e,feed_full l hs (bl.set held c) (held + 1) om om,lay]
theorem st_setByte {hs : List Nat} {bl : List UInt8} {held total j : Nat} (hh : hs.length = 8) (hb : bl.length = 64) (hj : j < 64) (c : UInt8) :
  (stC hs bl held total).setIfInBounds (8 + j) (.int .u8 (c.toNat : Int)) = stC hs (bl.set j c) held total := by
 have h1 := bv_set (l := bl) (i := j) (x := (c.toNat : Int)) om (by have := UInt8.toNat_lt c; omega)
 have h2 := wlen hh; have h3 := blen hb
 apply Array.ext'
 simp only [stC,List.setIfInBounds_toArray]
 rw [List.set_append_right _ _ om,h2,show 8 + j - 8 = j by omega,List.set_append_left _ _ om]
 rw [show UInt8.ofNat ((c.toNat : Int)).toNat = c by simp] at h1
 rw [← h1,Array.toList_setIfInBounds]
theorem spl_lay : ∀ (l : List UInt8) {hs : List Nat} {bl : List UInt8} {held total j : Nat},hs.length = 8 → bl.length = 64 → j + l.length ≤ 64 → spl (stC hs bl held total) (8 + j) (bv l).toList = stC hs (lay bl j l) held total
 | [],hs,bl,held,total,j,hh,hb,hj => rfl
 | c :: l,hs,bl,held,total,j,hh,hb,hj => by
  rw [List.length_cons] at hj
  show spl ((stC hs bl held total).setIfInBounds (8 + j) (.int .u8 (c.toNat : Int))) (8 + j + 1) (bv l).toList = _
  rw [st_setByte hh hb om,show 8 + j + 1 = 8 + (j + 1) by omega,spl_lay l hh (by simp [hb]) om,lay]
theorem off_eq {held : Nat} (h : held < 64) : (if 64 = held then 8 else (addO 8 held)) = 8 + held := by rw [if_neg (by omega),addO_eq]
theorem sext_list (p : ByteArray) (n : Nat) : (p.extract n p.size).data.toList = p.data.toList.drop n := by
 rw [ByteArray.data_extract,Array.toList_extract]
 have : p.size = p.data.toList.length := by simp
 rw [this,List.extract_eq_take_drop,List.take_of_length_le (by simp)]
theorem part_len {p : ByteArray} {n : Nat} (h : n ≤ p.size) : (p.data.toList.take n).length = n := by
 have : p.size = p.data.toList.length := by simp
 rw [List.length_take]; omega
theorem feed_ext (s : Sh) (p : ByteArray) (n : Nat) : feed (feed s (p.data.toList.take n)) (p.extract n p.size).data.toList = feed s p.data.toList := by
 rw [sext_list,← feed_app,List.take_append_drop]
def cn (p : ByteArray) (held : Nat) : Nat := min p.size (64 - held)
theorem ext_size (p : ByteArray) (n : Nat) (h : n ≤ p.size) : (p.extract n p.size).size = p.size - n := by
 rw [ByteArray.size_extract]; omega
end Go.Proofs.YtbeegepcdglcaaaGreatDoor
namespace Go.Proofs.YtbeegepcdglcaaaGreatDoor
open K
set_option linter.unusedVariables false
def lb (total : Nat) : Nat := total * 8 % 18446744073709551616
theorem lb_eq (total : Nat) : ((total : Int) * 8) % 18446744073709551616 = ((lb total : Nat) : Int) := by unfold lb; omega
def pz (z : Sh) (j : Nat) : Sh := feed z (128 :: List.replicate j 0)
def tj (total j : Nat) : Nat := (total + 1 + j) % 18446744073709551616
def padN (z : Sh) : Nat := (119 - z.held) % 64
theorem pz_zero (z : Sh) : feedB z 128 = pz z 0 := rfl
theorem pz_succ (z : Sh) (j : Nat) : feedB (pz z j) 0 = pz z (j + 1) := by
 unfold pz
 rw [List.replicate_succ',← List.cons_append,feed_app]; rfl
theorem tj_zero (total : Nat) : (total + 1) % 18446744073709551616 = tj total 0 := rfl
theorem tj_succ (total j : Nat) : (tj total j + 1) % 18446744073709551616 = tj total (j + 1) := by unfold tj; omega
theorem pz_ok {z : Sh} (h : z.Ok) (j : Nat) : (pz z j).Ok := feed_ok _ h
theorem pz_held {z : Sh} (h : z.Ok) (j : Nat) : (pz z j).held = (z.held + 1 + j) % 64 := by
 unfold pz
 rw [feed_held _ h,List.length_cons,List.length_replicate,show z.held + (j + 1) = z.held + 1 + j by omega]
theorem pad_end {z : Sh} (h : z.Ok) {j : Nat} (hj : j ≤ padN z) : ((pz z j).held : Int) = 56 ↔ j = padN z := by
 have h1 := h.held
 rw [pz_held h]
 unfold padN at *
 omega
def tb (n i : Nat) : UInt8 := UInt8.ofNat (n / 2 ^ (56 - 8 * i))
def tlr (n k : Nat) : List UInt8 := (List.range k).map (tb n) ++ List.replicate (8 - k) 0
theorem tlr_len {n k : Nat} (h : k ≤ 8) : (tlr n k).length = 8 := by simp [tlr]; omega
theorem u8mod (m : Nat) : UInt8.ofNat (m % 256) = UInt8.ofNat m := by apply UInt8.toNat_inj.1; simp
theorem set_one (A : List UInt8) (m : Nat) (x : UInt8) (hm : 1 ≤ m) : (A ++ List.replicate m 0).set A.length x = A ++ [x] ++ List.replicate (m - 1) 0 := by
 obtain ⟨q,rfl⟩ : ∃ q,m = q + 1 := ⟨m - 1,by omega⟩
 simp [List.replicate_succ]
theorem tlr_step {n k : Nat} (hk : k < 8) {x : Int} (hx : x = (n : Int) / ((2 ^ ((56 - 8 * (k : Int))).toNat : Nat) : Int) % 256) : (bv (tlr n k)).setIfInBounds k (.int .u8 x) = bv (tlr n (k + 1)) := by
 have e : x = ((n / 2 ^ (56 - 8 * k) % 256 : Nat) : Int) := by
  rw [hx,show (56 - 8 * (k : Int)).toNat = 56 - 8 * k by omega]; rfl
 subst e
 have hb : n / 2 ^ (56 - 8 * k) % 256 < 256 := Nat.mod_lt _ (by decide)
 rw [bv_set (Int.natCast_nonneg _) om,Int.toNat_natCast,u8mod]
 congr 1
 have h1 := set_one ((List.range k).map (tb n)) (8 - k) (tb n k) om
 rw [List.length_map,List.length_range] at h1
 unfold tlr
 rw [List.range_succ,List.map_append]
 exact h1
def tls (n : Nat) : ByteArray := ⟨(tlr n 8).toArray⟩
def dg4 (x : Nat) : List UInt8 := [UInt8.ofNat (x / 16777216),UInt8.ofNat (x / 65536),UInt8.ofNat (x / 256),UInt8.ofNat x]
def dgr (hs : List Nat) (k : Nat) : List UInt8 := (List.range k).flatMap (fun i => dg4 (rg hs i)) ++ List.replicate (32 - 4 * k) 0
theorem dgf_len (hs : List Nat) : ∀ k,((List.range k).flatMap (fun i => dg4 (rg hs i))).length = 4 * k
 | 0 => rfl
 | k + 1 => by rw [List.range_succ,List.flatMap_append,List.length_append,dgf_len hs k]; simp [dg4]; omega
theorem dgr_len {hs : List Nat} {k : Nat} (h : k ≤ 8) : (dgr hs k).length = 32 := by simp only [dgr,List.length_append,dgf_len,List.length_replicate]; omega
theorem set_four (A : List UInt8) (m : Nat) (a b c d : UInt8) (hm : 4 ≤ m) : ((((A ++ List.replicate m 0).set A.length a).set (A.length + 1) b).set (A.length + 2) c).set (A.length + 3) d = A ++ [a,b,c,d] ++ List.replicate (m - 4) 0 := by
 obtain ⟨q,rfl⟩ : ∃ q,m = q + 4 := ⟨m - 4,by omega⟩
 simp [List.replicate_succ]
theorem bset (l : List UInt8) (i m : Nat) : (bv l).setIfInBounds i (.int .u8 ((m % 256 : Nat) : Int)) = bv (l.set i (UInt8.ofNat m)) := by
 have hb : m % 256 < 256 := Nat.mod_lt _ (by decide)
 rw [bv_set (Int.natCast_nonneg _) om,Int.toNat_natCast,u8mod]
theorem dgr_step (hs : List Nat) {k : Nat} (hk : k < 8) {a b c d : Int} (ha : a = ((rg hs k / 16777216 % 256 : Nat) : Int)) (hb : b = ((rg hs k / 65536 % 256 : Nat) : Int)) (hc : c = ((rg hs k / 256 % 256 : Nat) : Int)) (hd : d = ((rg hs k % 256 : Nat) : Int)) :
  ((((bv (dgr hs k)).setIfInBounds (4 * k) (.int .u8 a)).setIfInBounds ((4 * k) + 1) (.int .u8 b)).setIfInBounds ((4 * k) + 2) (.int .u8 c)).setIfInBounds ((4 * k) + 3) (.int .u8 d) = bv (dgr hs (k + 1)) := by
 subst ha hb hc hd
 rw [bset,bset,bset,bset]
 congr 1
 have h1 := set_four ((List.range k).flatMap (fun i => dg4 (rg hs i))) (32 - 4 * k) (UInt8.ofNat (rg hs k / 16777216)) (UInt8.ofNat (rg hs k / 65536)) (UInt8.ofNat (rg hs k / 256)) (UInt8.ofNat (rg hs k)) om
 rw [dgf_len] at h1
 unfold dgr
 rw [h1,List.range_succ,List.flatMap_append,show 32 - 4 * (k + 1) = 32 - 4 * k - 4 by omega]
 simp [dg4]
def z3 (z : Sh) (total : Nat) : Sh := feed (pz z (padN z)) (tlr (lb total) 8)
def shaEnd (z : Sh) (total : Nat) : List UInt8 := dgr (z3 z total).hs 8
theorem shaEnd_len (z : Sh) (total : Nat) : (shaEnd z total).length = 32 := dgr_len (Nat.le_refl 8)
theorem z3_ok {z : Sh} (h : z.Ok) (total : Nat) : (z3 z total).Ok := feed_ok _ (pz_ok h _)
theorem zsz : (bv (List.replicate 32 0)).size = 32 := rfl
theorem dsz (hs : List Nat) {k : Nat} (h : k ≤ 8) : (bv (dgr hs k)).size = 32 := (bv_size _).trans (dgr_len h)
end Go.Proofs.YtbeegepcdglcaaaGreatDoor
namespace Go.Proofs.YtbeegepcdglcaaaGreatDoor
open K
set_option linter.unusedVariables false
namespace K
theorem HP.dropM {w0 w w' : World} {M : List Nat} {R O : List (Nat × Obj)} (h : HP w0 M R O w) (i : Nat) {b : Nat} {o : Obj} (hi : O[i]? = some (b,o)) (hx : Ext [b] w w') : HP w0 M R (O.eraseIdx i) w' :=
 h.call hx _ (List.eraseIdx_sublist ..) (by
  intro k hk
  simp only [List.mem_cons,List.not_mem_nil,or_false] at hk
  subst hk
  exact List.mem_map.2 ⟨_,List.mem_of_getElem? hi,rfl⟩) (by
  intro e he hm
  simp only [List.mem_cons,List.not_mem_nil,or_false] at hm
  obtain ⟨j,hj⟩ := List.mem_iff_getElem?.1 he
  rw [List.getElem?_eraseIdx] at hj
  split at hj
  ·rename_i hlt
   have := nodup_inj h.dist (i := j) (j := i) (x := b) (by simp [hj,hm]) (by simp [hi])
   omega
  ·rename_i hlt
   have := nodup_inj h.dist (i := j + 1) (j := i) (x := b) (by simp [hj,hm]) (by simp [hi])
   omega)
theorem Eff.callD {C : Cx} {R O : List (Nat × Obj)} {Γ : Env} {o : Oper} {f : FuncId} {fn : Func} {c : Code} {xs : List Operand} {tys : Array TypeId} {vs : List Value} (v : Value) (i : Nat) {b : Nat} {ob : Obj} (ho : o.op = .call ⟨.value (.func f),xs.toArray,tys⟩) (hf : C.P.funcs[f]? = some fn)
  (hnm : (fn.name == "runtime.NumGoroutine") = false) (hb : fn.body = some c) (hx : opds Γ xs = some vs) (hi : O[i]? = some (b,ob))
  (h : ∀ w,HP C.w0 C.M R O w → Calls C.P f vs.toArray w fun e w' => e = .returned v ∧ Ext [b] w w') : Eff C R O Γ o Unit (fun _ => v) (fun _ => O.eraseIdx i) (fun _ => True) :=
 Eff.call ho hf hnm hb hx fun w hp => (h w hp).mono fun _ _ hh => ⟨(),trivial,hh.1,hp.dropM i hi hh.2⟩
end K
def H8 : List Nat := [1779033703,3144134277,1013904242,2773480762,1359893119,2600822924,528734635,1541459225]
def sh0 : Sh := ⟨H8,List.replicate 64 0,0⟩
theorem sh0_ok : sh0.Ok := ⟨rfl,rfl,fun i => by
 unfold sh0 H8 rg
 rcases i with _ | _ | _ | _ | _ | _ | _ | _ | i <;> simp,by decide⟩
def ssat (ss : List ByteArray) (i : Nat) : ByteArray := ss.getD i ByteArray.empty
def scat (ss : List ByteArray) : List UInt8 := ss.flatMap fun s => s.data.toList
def sz (ss : List ByteArray) (i : Nat) : Sh := feed sh0 (scat (ss.take i))
def tt (ss : List ByteArray) (i : Nat) : Nat := (scat (ss.take i)).length % 18446744073709551616
theorem take_ssat {ss : List ByteArray} {i : Nat} (h : i < ss.length) : ss.take (i + 1) = ss.take i ++ [ssat ss i] := by
 rw [List.take_succ_eq_append_getElem h]; simp [ssat,List.getElem?_eq_getElem h]
theorem scat_app (a b : List ByteArray) : scat (a ++ b) = scat a ++ scat b := List.flatMap_append ..
theorem scat_one (s : ByteArray) : scat [s] = s.data.toList := by simp [scat]
theorem sz_succ {ss : List ByteArray} {i : Nat} (h : i < ss.length) : feed (sz ss i) (ssat ss i).data.toList = sz ss (i + 1) := by
 unfold sz; rw [take_ssat h,scat_app,scat_one,feed_app]
theorem tt_succ {ss : List ByteArray} {i : Nat} (h : i < ss.length) : (tt ss i + (ssat ss i).size) % 18446744073709551616 = tt ss (i + 1) := by
 unfold tt; rw [take_ssat h,scat_app,scat_one,List.length_append]
 have : (ssat ss i).data.toList.length = (ssat ss i).size := by simp
 omega
theorem sz_ok (ss : List ByteArray) (i : Nat) : (sz ss i).Ok := feed_ok _ sh0_ok
def shaD (l : List UInt8) : List UInt8 := shaEnd (feed sh0 l) (l.length % 18446744073709551616)
theorem shaD_len (l : List UInt8) : (shaD l).length = 32 := shaEnd_len _ _
theorem sz_all (ss : List ByteArray) : shaEnd (sz ss ss.length) (tt ss ss.length) = shaD (scat ss) := by unfold sz tt shaD; rw [List.take_length]
theorem dz (l : List UInt8) : (bv (shaD l)).size = 32 := (bv_size _).trans (shaD_len l)
end Go.Proofs.YtbeegepcdglcaaaGreatDoor
namespace Go.Proofs.YtbeegepcdglcaaaGreatDoor
open K
set_option linter.unusedVariables false
set_option maxRecDepth 100000 in
theorem words (b : Nat) (hs : List Nat) (bl : List UInt8) (held total : Nat) (w : World) (hh : hs.length = 8) (hb : bl.length = 64) (hR : Has w [(b,.cells (stC hs bl held total) 135 (0,0))]) :
  Calls Tryz.prog 100 #[.pointer (some ⟨b,0,none⟩)] w fun e w' => e = .returned (.agg (wv (row bl 64))) ∧ Ext [] w w' := by
 refine enter (vs := [pT b]) [] [(b,.cells (stC hs bl held total) 135 (0,0))] [] Tryz.func100 rfl kr (HP.ofHas hR) ?_
 refine Cfg.begL rfl ?_
 refine Le (Eff.alloc (z := (.agg (wv (List.replicate 64 0)))) rfl kr) ?_
 rintro r ⟨hr,nr⟩
 refine CfgL.done rfl ?_
 refine Cfg.begL rfl ?_
 refine Le (Eff.alloc (z := (.agg (wv (List.replicate 64 0)))) rfl kr) ?_
 rintro xw ⟨hxw,nxw⟩
 refine CfgL.done rfl ?_
 refine Rg [0,2,3,10] [] n0 trivial ?_
 refine Cfg.loop rfl (ι := Nat) (fun (t : Nat) => [(10,[],.int .i64 (t : Int)),(3,[],pT xw),(2,[],pT r),(0,[],pT b)]) (fun (t : Nat) => [(xw,.cells (wv (row bl t)) 156 (0,0)),(r,.cells (wv (List.replicate 64 0)) 156 (0,0))]) (fun (t : Nat) => (t ≤ 16)) (fun (t : Nat) => 16 - t) 0 ?_ (Conv.mk kr) (.cons_cons _ (.cons_cons _ .slnil)) ?_
 ·exact Nat.zero_le _
 ·rintro t ht
  refine Rg [0,2,3,10,11] [] n0 trivial ?_
  refine Cfg.cond rfl (b := (decide ((t : Int) < (16 : Int)))) kr (fun c1r => ?_) (fun c1r => ?_)
  ·have c1 := (dT c1r)
   refine Rg [0,2,3,4,10] [] n0 trivial ?_
   refine Cfg.begA rfl kr [(r,.cells (wv (List.replicate 64 0)) 156 (0,0))] ?_
   refine Ap (List.range 43) [dZ,dZ,dZ,dZ,dZ,dZ,dZ,(dS (.int .u8 (bt4 bl (4 * t) : Int))),dZ,dZ,dZ,dZ,dZ,dZ,dZ,dZ,dZ,(dS (.int .u8 (bt4 bl ((4 * t) + 1) : Int))),dZ,dZ,dZ,dZ,dZ,dZ,dZ,dZ,dZ,dZ,(dS (.int .u8 (bt4 bl ((4 * t) + 2) : Int))),dZ,dZ,dZ,dZ,dZ,dZ,dZ,dZ,dZ,dZ,(dS (.int .u8 (bt4 bl ((4 * t) + 3) : Int)))] (some [0,2,3,10,54,55]) (tF 43 1) (.cons _ (.cons_cons _ .slnil)) 1 (fun S => [(i6 (4 * (t : Int))),(iL (4 * (t : Int)) 64),(cE S b (addO 8 (4 * t)) (.int .u8 (bt4 bl (4 * t) : Int))),((0 : Int) ≤ (bt4 bl (4 * t) : Int) ∧ (bt4 bl (4 * t) : Int) ≤ 4294967295),(0 ≤ (24 : Int) ∧ 24 ≤ 32),(i6 (4 * (t : Int))),(i6 ((4 * (t : Int)) + 1)),(iL ((4 * (t : Int)) + 1) 64),(cE S b (addO 8 ((4 * t) + 1)) (.int .u8 (bt4 bl ((4 * t) + 1) : Int))),((0 : Int) ≤ (bt4 bl ((4 * t) + 1) : Int) ∧ (bt4 bl ((4 * t) + 1) : Int) ≤ 4294967295),(0 ≤ (16 : Int) ∧ 16 ≤ 32),((0 ≤ (((bt4 bl (4 * t) : Int) * 16777216) % 4294967296) ∧ (((bt4 bl (4 * t) : Int) * 16777216) % 4294967296) ≤ 4294967295) ∧ 0 ≤ (((bt4 bl ((4 * t) + 1) : Int) * 65536) % 4294967296) ∧ (((bt4 bl ((4 * t) + 1) : Int) * 65536) % 4294967296) ≤ 4294967295),(i6 (4 * (t : Int))),(i6 ((4 * (t : Int)) + 2)),(iL ((4 * (t : Int)) + 2) 64),(cE S b (addO 8 ((4 * t) + 2)) (.int .u8 (bt4 bl ((4 * t) + 2) : Int))),((0 : Int) ≤ (bt4 bl ((4 * t) + 2) : Int) ∧ (bt4 bl ((4 * t) + 2) : Int) ≤ 4294967295),(0 ≤ (8 : Int) ∧ 8 ≤ 32),((0 ≤ ((((((bt4 bl (4 * t) : Int) * 16777216) % 4294967296)).toNat ||| ((((bt4 bl ((4 * t) + 1) : Int) * 65536) % 4294967296)).toNat : Nat) : Int) ∧ ((((((bt4 bl (4 * t) : Int) * 16777216) % 4294967296)).toNat ||| ((((bt4 bl ((4 * t) + 1) : Int) * 65536) % 4294967296)).toNat : Nat) : Int) ≤ 4294967295) ∧ 0 ≤ (((bt4 bl ((4 * t) + 2) : Int) * 256) % 4294967296) ∧ (((bt4 bl ((4 * t) + 2) : Int) * 256) % 4294967296) ≤ 4294967295),(i6 (4 * (t : Int))),(i6 ((4 * (t : Int)) + 3)),(iL ((4 * (t : Int)) + 3) 64),(cE S b (addO 8 ((4 * t) + 3)) (.int .u8 (bt4 bl ((4 * t) + 3) : Int))),((0 : Int) ≤ (bt4 bl ((4 * t) + 3) : Int) ∧ (bt4 bl ((4 * t) + 3) : Int) ≤ 4294967295),((0 ≤ (((((((((bt4 bl (4 * t) : Int) * 16777216) % 4294967296)).toNat ||| ((((bt4 bl ((4 * t) + 1) : Int) * 65536) % 4294967296)).toNat : Nat) : Int)).toNat ||| ((((bt4 bl ((4 * t) + 2) : Int) * 256) % 4294967296)).toNat : Nat) : Int) ∧ (((((((((bt4 bl (4 * t) : Int) * 16777216) % 4294967296)).toNat ||| ((((bt4 bl ((4 * t) + 1) : Int) * 65536) % 4294967296)).toNat : Nat) : Int)).toNat ||| ((((bt4 bl ((4 * t) + 2) : Int) * 256) % 4294967296)).toNat : Nat) : Int) ≤ 4294967295) ∧ 0 ≤ (bt4 bl ((4 * t) + 3) : Int) ∧ (bt4 bl ((4 * t) + 3) : Int) ≤ 4294967295),(iL (t : Int) 64)]) ⟨om,om,(fun w1 h => h.rcell 0 rfl (by rw [addO_eq]; exact st_byte hh hb om)),(by have := bt4_lt bl (4 * t); omega),om,om,om,om,(fun w1 h => h.rcell 0 rfl (by rw [addO_eq]; exact st_byte hh hb om)),(by have := bt4_lt bl ((4 * t) + 1); omega),om,(by have := bt4_lt bl (4 * t); have := bt4_lt bl ((4 * t) + 1); omega),om,om,om,(fun w1 h => h.rcell 0 rfl (by rw [addO_eq]; exact st_byte hh hb om)),(by have := bt4_lt bl ((4 * t) + 2); omega),om,⟨⟨Int.natCast_nonneg _,le_pow (b := 32) (Nat.or_lt_two_pow om om)⟩,⟨by omega,by omega⟩⟩,om,om,om,(fun w1 h => h.rcell 0 rfl (by rw [addO_eq]; exact st_byte hh hb om)),(by have := bt4_lt bl ((4 * t) + 3); omega),⟨⟨Int.natCast_nonneg _,le_pow (b := 32) (Nat.or_lt_two_pow (tn_lt (Nat.or_lt_two_pow om om)) om)⟩,⟨Int.natCast_nonneg _,le_pow (b := 32) (b84 _ _)⟩⟩,om,trivial⟩ ?_
   refine Ae 43 rfl 0  (Eff.store1 (b := xw) (off := t) (v := .int .u32 ((((((((((((bt4 bl (4 * t) : Int) * 16777216) % 4294967296)).toNat ||| ((((bt4 bl ((4 * t) + 1) : Int) * 65536) % 4294967296)).toNat : Nat) : Int)).toNat ||| ((((bt4 bl ((4 * t) + 2) : Int) * 256) % 4294967296)).toNat : Nat) : Int)).toNat ||| ((bt4 bl ((4 * t) + 3) : Int)).toNat : Nat) : Int)) rfl kr kr rfl kr 0 (cs := (wv (row bl t))) (e := 156) kr (by rw [wsize]; omega)) (fun _ _ => (.cons _ (.cons_cons _ .slnil))) ?_
   rintro ⟨⟩ -
   refine CfgA.done kr ?_
   refine Cg (Γ' := [(10,[],.int .i64 (t : Int)),(3,[],pT xw),(2,[],pT r),(0,[],pT b)]) ?_
   refine Rg [0,2,3,10] [] (fun _ => [(i6 ((t : Int) + 1))]) ⟨om,trivial⟩ ?_
   refine Cfg.setO (congrArg (fun (xq : Array Value) => ([(xw,.cells xq 156 (0,0)),(r,.cells (wv (List.replicate 64 0)) 156 (0,0))] : LO)) (show _ = (wv (row bl (t + 1))) from row_step bl t (wnext_lo om (be4_eq _ _ _ _)))) ?_
   refine Cfg.again rfl (t + 1) (by show t + 1 ≤ 16; omega) (by show 16 - (t + 1) < 16 - t; omega) (Conv.mk kr) (.cons_cons _ (.cons_cons _ .slnil))
  ·have c1 := (dF c1r)
   obtain rfl : t = 16 := by omega
   refine Conv.cfg (Γ' := [(3,[],pT xw),(2,[],pT r),(0,[],pT b)]) (Conv.mk kr) ?_
   refine Rg [2,3,5] [] n0 trivial ?_
   refine Cfg.loop rfl (ι := Nat) (fun (t : Nat) => [(5,[],.int .i64 (t : Int)),(3,[],pT xw),(2,[],pT r)]) (fun (t : Nat) => [(xw,.cells (wv (row bl t)) 156 (0,0)),(r,.cells (wv (List.replicate 64 0)) 156 (0,0))]) (fun (t : Nat) => (16 ≤ t) ∧ (t ≤ 64)) (fun (t : Nat) => 64 - t) 16 ?_ (Conv.mk kr) (.cons_cons _ (.cons_cons _ .slnil)) ?_
   ·exact ⟨Nat.le_refl _,by decide⟩
   ·rintro t ⟨ht0,ht⟩
    refine Rg [2,3,5,58] [] n0 trivial ?_
    refine Cfg.cond rfl (b := (decide ((t : Int) < (64 : Int)))) kr (fun c2r => ?_) (fun c2r => ?_)
    ·have c2 := (dT c2r)
     refine Cfg.regD rfl kr [2,3,5,6,7] [dZ,dZ,dZ,(dS (.int .u32 (rg (row bl t) (t - 15) : Int))),dZ,dZ,dZ,(dS (.int .u32 (rg (row bl t) (t - 2) : Int)))] (Γ' := [(7,[],.int .u32 (rg (row bl t) (t - 2) : Int)),(6,[],.int .u32 (rg (row bl t) (t - 15) : Int)),(5,[],.int .i64 (t : Int)),(3,[],pT xw),(2,[],pT r)]) (nd := (fun S => [(i6 ((t : Int) - 15)),(iL ((t : Int) - 15) 64),(cE S xw ((((t : Int) - 15)).toNat) (.int .u32 (rg (row bl t) (t - 15) : Int))),(i6 ((t : Int) - 2)),(iL ((t : Int) - 2) 64),(cE S xw ((((t : Int) - 2)).toNat) (.int .u32 (rg (row bl t) (t - 2) : Int)))])) kr kr (fun _ => kr) ⟨om,om,(fun w1 h => h.ocell 0 rfl (by rw [show (((t : Int) - 15)).toNat = (t - 15) by omega]; exact wv_get (row_len bl t) om)),om,om,(fun w1 h => h.ocell 0 rfl (by rw [show (((t : Int) - 2)).toNat = (t - 2) by omega]; exact wv_get (row_len bl t) om)),trivial⟩ ?_
     refine Cfg.begL rfl ?_
     refine Lp 1 [] none n0 trivial ?_
     refine Le (Eff.callA (vs := [.int .u32 (rg (row bl t) (t - 15) : Int),.int .i64 (-7)]) (.int .u32 (rotl (rg (row bl t) (t - 15)) 33554432 128 : Int)) rfl Tryz.func101 rfl rfl kr (fun w1 _ => rot25 _ w1 (row_lt bl t _))) ?_
     rintro ⟨⟩ -
     refine Lp 1 [] (some [2,3,5,6,7,70,71]) n0 trivial ?_
     refine Le (Eff.callA (vs := [.int .u32 (rg (row bl t) (t - 15) : Int),.int .i64 (-18)]) (.int .u32 (rotl (rg (row bl t) (t - 15)) 16384 262144 : Int)) rfl Tryz.func101 rfl rfl kr (fun w1 _ => rot14 _ w1 (row_lt bl t _))) ?_
     rintro ⟨⟩ -
     refine Lp 5 [] (some [2,3,5,7,8]) (fun _ => [((0 ≤ (rotl (rg (row bl t) (t - 15)) 33554432 128 : Int) ∧ (rotl (rg (row bl t) (t - 15)) 33554432 128 : Int) ≤ 4294967295) ∧ 0 ≤ (rotl (rg (row bl t) (t - 15)) 16384 262144 : Int) ∧ (rotl (rg (row bl t) (t - 15)) 16384 262144 : Int) ≤ 4294967295),(0 ≤ (3 : Int) ∧ 3 ≤ 32),((0 ≤ ((((rotl (rg (row bl t) (t - 15)) 33554432 128 : Int)).toNat ^^^ ((rotl (rg (row bl t) (t - 15)) 16384 262144 : Int)).toNat : Nat) : Int) ∧ ((((rotl (rg (row bl t) (t - 15)) 33554432 128 : Int)).toNat ^^^ ((rotl (rg (row bl t) (t - 15)) 16384 262144 : Int)).toNat : Nat) : Int) ≤ 4294967295) ∧ 0 ≤ ((rg (row bl t) (t - 15) : Int) / 8) ∧ ((rg (row bl t) (t - 15) : Int) / 8) ≤ 4294967295)]) ⟨⟨⟨Int.natCast_nonneg _,le_pow (b := 32) (rotl_lt (row_lt bl t _))⟩,⟨Int.natCast_nonneg _,le_pow (b := 32) (rotl_lt (row_lt bl t _))⟩⟩,om,⟨⟨Int.natCast_nonneg _,le_pow (b := 32) (Nat.xor_lt_two_pow (tn_lt (rotl_lt (row_lt bl t _))) (tn_lt (rotl_lt (row_lt bl t _))))⟩,⟨Int.natCast_nonneg _,le_pow (b := 32) (Nat.lt_of_le_of_lt (Nat.div_le_self _ _) (row_lt bl t _))⟩⟩,trivial⟩ ?_
     refine CfgL.done rfl ?_
     refine Cfg.begL rfl ?_
     refine Lp 1 [] none n0 trivial ?_
     refine Le (Eff.callA (vs := [.int .u32 (rg (row bl t) (t - 2) : Int),.int .i64 (-17)]) (.int .u32 (rotl (rg (row bl t) (t - 2)) 32768 131072 : Int)) rfl Tryz.func101 rfl rfl kr (fun w1 _ => rot15 _ w1 (row_lt bl t _))) ?_
     rintro ⟨⟩ -
     refine CfgL.pure 1 [] (some [2,3,5,7,8,78,79]) (Γ' := [(79,[],.int .u32 (rg (row bl t) (t - 2) : Int)),(78,[],.int .u32 (rotl (rg (row bl t) (t - 2)) 32768 131072 : Int)),(8,[],.int .u32 (((((((rotl (rg (row bl t) (t - 15)) 33554432 128 : Int)).toNat ^^^ ((rotl (rg (row bl t) (t - 15)) 16384 262144 : Int)).toNat : Nat) : Int)).toNat ^^^ (((rg (row bl t) (t - 15) : Int) / 8)).toNat : Nat) : Int)),(7,[],.int .u32 (rg (row bl t) (t - 2) : Int)),(5,[],.int .i64 (t : Int)),(3,[],pT xw),(2,[],pT r)]) (nd := (fun _ => [])) kr (fun _ => kr) trivial ?_
     refine Le (Eff.callA (vs := [.int .u32 (rg (row bl t) (t - 2) : Int),.int .i64 (-19)]) (.int .u32 (rotl (rg (row bl t) (t - 2)) 8192 524288 : Int)) rfl Tryz.func101 rfl rfl kr (fun w1 _ => rot13 _ w1 (row_lt bl t _))) ?_
     rintro ⟨⟩ -
     refine Lp 5 [] (some [2,3,5,8,9]) (fun _ => [((0 ≤ (rotl (rg (row bl t) (t - 2)) 32768 131072 : Int) ∧ (rotl (rg (row bl t) (t - 2)) 32768 131072 : Int) ≤ 4294967295) ∧ 0 ≤ (rotl (rg (row bl t) (t - 2)) 8192 524288 : Int) ∧ (rotl (rg (row bl t) (t - 2)) 8192 524288 : Int) ≤ 4294967295),(0 ≤ (10 : Int) ∧ 10 ≤ 32),((0 ≤ ((((rotl (rg (row bl t) (t - 2)) 32768 131072 : Int)).toNat ^^^ ((rotl (rg (row bl t) (t - 2)) 8192 524288 : Int)).toNat : Nat) : Int) ∧ ((((rotl (rg (row bl t) (t - 2)) 32768 131072 : Int)).toNat ^^^ ((rotl (rg (row bl t) (t - 2)) 8192 524288 : Int)).toNat : Nat) : Int) ≤ 4294967295) ∧ 0 ≤ ((rg (row bl t) (t - 2) : Int) / 1024) ∧ ((rg (row bl t) (t - 2) : Int) / 1024) ≤ 4294967295)]) ⟨⟨⟨Int.natCast_nonneg _,le_pow (b := 32) (rotl_lt (row_lt bl t _))⟩,⟨Int.natCast_nonneg _,le_pow (b := 32) (rotl_lt (row_lt bl t _))⟩⟩,om,⟨⟨Int.natCast_nonneg _,le_pow (b := 32) (Nat.xor_lt_two_pow (tn_lt (rotl_lt (row_lt bl t _))) (tn_lt (rotl_lt (row_lt bl t _))))⟩,⟨Int.natCast_nonneg _,le_pow (b := 32) (Nat.lt_of_le_of_lt (Nat.div_le_self _ _) (row_lt bl t _))⟩⟩,trivial⟩ ?_
     refine CfgL.done rfl ?_
     refine Cfg.begA rfl kr [(r,.cells (wv (List.replicate 64 0)) 156 (0,0))] ?_
     refine Ap [0,1,2,3,4,7,9,10,11] [] (some [2,3,5,85,86,89,92,96]) (bF 3743 16) (.cons _ (.cons_cons _ .slnil)) 7 (fun _ => [(i6 ((t : Int) - 7)),(iL ((t : Int) - 7) 64),(i6 ((t : Int) - 16)),(iL ((t : Int) - 16) 64)]) ⟨om,om,om,om,trivial⟩ ?_
     refine CfgA.two 5 12 kr (fuel' := 6) rfl ?_ ?_
     ·
      refine Ie rfl  (Eff.quiet (raw := false) (orc := some (.int .u32 (rg (row bl t) (t - 7) : Int))) (v := .int .u32 (rg (row bl t) (t - 7) : Int)) (nd := (fun S => [(cE S xw ((((t : Int) - 7)).toNat) (.int .u32 (rg (row bl t) (t - 7) : Int)))])) (fun _ => kr) ⟨(fun w1 h => h.ocell 0 rfl (by rw [show (((t : Int) - 7)).toNat = (t - 7) by omega]; exact wv_get (row_len bl t) om)),trivial⟩ kr) (fun _ _ => (.cons _ (.cons_cons _ .slnil))) ?_
      rintro ⟨⟩ -
      refine Ap [6,8] [] (some [2,3,5,85,93,96]) (tF 12 4) (.cons _ (.cons_cons _ .slnil)) 4 n0 trivial ?_
      refine Ae 12 rfl 3  (Eff.quiet (raw := false) (orc := some (.int .u32 (rg (row bl t) (t - 16) : Int))) (v := .int .u32 (rg (row bl t) (t - 16) : Int)) (nd := (fun S => [(cE S xw ((((t : Int) - 16)).toNat) (.int .u32 (rg (row bl t) (t - 16) : Int)))])) (fun _ => kr) ⟨(fun w1 h => h.ocell 0 rfl (by rw [show (((t : Int) - 16)).toNat = (t - 16) by omega]; exact wv_get (row_len bl t) om)),trivial⟩ kr) (fun _ _ => (.cons _ (.cons_cons _ .slnil))) ?_
      rintro ⟨⟩ -
      refine Ap [13,14] [] (some [2,3,5,98,99]) (tF 15 1) (.cons _ (.cons_cons _ .slnil)) 1 (fun _ => [(iL (t : Int) 64)]) ⟨om,trivial⟩ ?_
      refine Ae 15 rfl 0  (Eff.store1 (b := xw) (off := t) (v := .int .u32 (((((((((((((rotl (rg (row bl t) (t - 2)) 32768 131072 : Int)).toNat ^^^ ((rotl (rg (row bl t) (t - 2)) 8192 524288 : Int)).toNat : Nat) : Int)).toNat ^^^ (((rg (row bl t) (t - 2) : Int) / 1024)).toNat : Nat) : Int) + (rg (row bl t) (t - 7) : Int)) % 4294967296) + (((((((rotl (rg (row bl t) (t - 15)) 33554432 128 : Int)).toNat ^^^ ((rotl (rg (row bl t) (t - 15)) 16384 262144 : Int)).toNat : Nat) : Int)).toNat ^^^ (((rg (row bl t) (t - 15) : Int) / 8)).toNat : Nat) : Int)) % 4294967296) + (rg (row bl t) (t - 16) : Int)) % 4294967296)) rfl kr kr rfl kr 0 (cs := (wv (row bl t))) (e := 156) kr (by rw [wsize]; omega)) (fun _ _ => (.cons _ (.cons_cons _ .slnil))) ?_
      rintro ⟨⟩ -
      refine CfgA.done kr ?_
      refine Cg (Γ' := [(5,[],.int .i64 (t : Int)),(3,[],pT xw),(2,[],pT r)]) ?_
      refine Rg [2,3,5] [] (fun _ => [(i6 ((t : Int) + 1))]) ⟨om,trivial⟩ ?_
      refine Cfg.setO (congrArg (fun (xq : Array Value) => ([(xw,.cells xq 156 (0,0)),(r,.cells (wv (List.replicate 64 0)) 156 (0,0))] : LO)) (show _ = (wv (row bl (t + 1))) from row_step bl t (wnext_hi om (wn_eq _ _ _ _)))) ?_
      refine Cfg.again rfl (t + 1) ⟨by omega,by omega⟩ (by show 64 - (t + 1) < 64 - t; omega) (Conv.mk kr) (.cons_cons _ (.cons_cons _ .slnil))
     ·
      refine Ie rfl  (Eff.quiet (raw := false) (orc := some (.int .u32 (rg (row bl t) (t - 16) : Int))) (v := .int .u32 (rg (row bl t) (t - 16) : Int)) (nd := (fun S => [(cE S xw ((((t : Int) - 16)).toNat) (.int .u32 (rg (row bl t) (t - 16) : Int)))])) (fun _ => kr) ⟨(fun w1 h => h.ocell 0 rfl (by rw [show (((t : Int) - 16)).toNat = (t - 16) by omega]; exact wv_get (row_len bl t) om)),trivial⟩ kr) (fun _ _ => (.cons _ (.cons_cons _ .slnil))) ?_
      rintro ⟨⟩ -
      refine Ae 5 rfl 5  (Eff.quiet (raw := false) (orc := some (.int .u32 (rg (row bl t) (t - 7) : Int))) (v := .int .u32 (rg (row bl t) (t - 7) : Int)) (nd := (fun S => [(cE S xw ((((t : Int) - 7)).toNat) (.int .u32 (rg (row bl t) (t - 7) : Int)))])) (fun _ => kr) ⟨(fun w1 h => h.ocell 0 rfl (by rw [show (((t : Int) - 7)).toNat = (t - 7) by omega]; exact wv_get (row_len bl t) om)),trivial⟩ kr) (fun _ _ => (.cons _ (.cons_cons _ .slnil))) ?_
      rintro ⟨⟩ -
      refine Ap [6,8,13,14] [] (some [2,3,5,98,99]) (tF 15 1) (.cons _ (.cons_cons _ .slnil)) 1 (fun _ => [(iL (t : Int) 64)]) ⟨om,trivial⟩ ?_
      refine Ae 15 rfl 0  (Eff.store1 (b := xw) (off := t) (v := .int .u32 (((((((((((((rotl (rg (row bl t) (t - 2)) 32768 131072 : Int)).toNat ^^^ ((rotl (rg (row bl t) (t - 2)) 8192 524288 : Int)).toNat : Nat) : Int)).toNat ^^^ (((rg (row bl t) (t - 2) : Int) / 1024)).toNat : Nat) : Int) + (rg (row bl t) (t - 7) : Int)) % 4294967296) + (((((((rotl (rg (row bl t) (t - 15)) 33554432 128 : Int)).toNat ^^^ ((rotl (rg (row bl t) (t - 15)) 16384 262144 : Int)).toNat : Nat) : Int)).toNat ^^^ (((rg (row bl t) (t - 15) : Int) / 8)).toNat : Nat) : Int)) % 4294967296) + (rg (row bl t) (t - 16) : Int)) % 4294967296)) rfl kr kr rfl kr 0 (cs := (wv (row bl t))) (e := 156) kr (by rw [wsize]; omega)) (fun _ _ => (.cons _ (.cons_cons _ .slnil))) ?_
      rintro ⟨⟩ -
      refine CfgA.done kr ?_
      refine Cg (Γ' := [(5,[],.int .i64 (t : Int)),(3,[],pT xw),(2,[],pT r)]) ?_
      refine Rg [2,3,5] [] (fun _ => [(i6 ((t : Int) + 1))]) ⟨om,trivial⟩ ?_
      refine Cfg.setO (congrArg (fun (xq : Array Value) => ([(xw,.cells xq 156 (0,0)),(r,.cells (wv (List.replicate 64 0)) 156 (0,0))] : LO)) (show _ = (wv (row bl (t + 1))) from row_step bl t (wnext_hi om (wn_eq _ _ _ _)))) ?_
      refine Cfg.again rfl (t + 1) ⟨by omega,by omega⟩ (by show 64 - (t + 1) < 64 - t; omega) (Conv.mk kr) (.cons_cons _ (.cons_cons _ .slnil))
    ·have c2 := (dF c2r)
     refine Cfg.begL rfl ?_
     refine Lp 1 [(dS (.agg (wv (row bl t))))] (some [2,100]) (fun S => [(∀ w1,S w1 → (loadVar 156 ⟨xw,0,none⟩).run Tryz.prog w1 = .ok (.agg (wv (row bl t))) w1)]) ⟨(fun w1 h => h.oload 0 rfl Tryz.underlying156 rfl (n := 64) kr (wsize bl t)),trivial⟩ ?_
     refine Le (Eff.storeN (b := r) (off := 0) (vs := (wv (row bl t))) (n := 64) rfl kr kr kr (wsize bl t) (all_wv _) 1 (cs := (wv (List.replicate 64 0))) (e := 156) kr (by rw [show wv (List.replicate 64 0) = wv (row bl 0) from rfl,wsize]; omega)) ?_
     rintro ⟨⟩ -
     refine CfgL.setO (congrArg (fun (xq : Array Value) => ([(xw,.cells (wv (row bl t)) 156 (0,0)),(r,.cells xq 156 (0,0))] : LO)) (show _ = (wv (row bl t)) from spl_all ((wsize bl t).trans (wsize bl 0).symm))) ?_
     refine CfgL.done rfl ?_
     refine Cg (Γ' := [(2,[],pT r)]) ?_
     refine Cfg.ret rfl (rs := [.cell 2 156]) rfl [.agg (wv (row bl t))] ⟨⟨_,by kernel_rfl,(fun w1 h => h.oload 1 rfl Tryz.underlying156 rfl (n := 64) kr (wsize bl t))⟩,trivial⟩ (fun w1 hp => ?_)
     obtain rfl : t = 64 := by omega
     exact ⟨rfl,hp.ext⟩
end Go.Proofs.YtbeegepcdglcaaaGreatDoor
namespace Go.Proofs.YtbeegepcdglcaaaGreatDoor
open K
set_option linter.unusedVariables false
set_option maxRecDepth 100000 in
theorem shaMix (b : Nat) (hs : List Nat) (bl : List UInt8) (held total : Nat) {kt : Array Value} {t0 : TypeId} {fr0 : Nat × Nat} (w : World) (hh : hs.length = 8) (hb : bl.length = 64) (hlt : ∀ i,rg hs i < 2 ^ 32) (hR : Has w [(0,.cells kt t0 fr0)]) (hS : w.heap[b]? = some (.cells (stC hs bl held total) 135 (0,0))) (hne : b ≠ 0) (hK : KT kt := by assumption) :
  Calls Tryz.prog 75 #[.pointer (some ⟨b,0,none⟩)] w fun e w' => e = .returned (.tuple #[]) ∧ Ext [b] w w' ∧ w'.heap[b]? = some (.cells (stC (mixF hs bl) bl held total) 135 (0,0)) := by
 refine enter (vs := [pT b]) [b] [(0,.cells kt t0 fr0)] [(b,.cells (stC hs bl held total) 135 (0,0))] Tryz.func75 rfl kr (HP.startM hR hS (by simpa using hne)) ?_
 refine Cfg.begL rfl ?_
 refine Lp 1 [] none n0 trivial ?_
 refine Le (Eff.callA (vs := [pT b]) (.agg (wv (row bl 64))) rfl Tryz.func100 rfl rfl kr (fun w1 h => words b hs bl held total w1 hh hb (h.has (fun e he => he)))) ?_
 rintro ⟨⟩ -
 refine Le (Eff.alloc (z := (.agg (wv (List.replicate 64 0)))) rfl kr) ?_
 rintro xw ⟨hxw,nxw⟩
 refine Le (Eff.storeN (b := xw) (off := 0) (vs := (wv (row bl 64))) (n := 64) rfl kr kr kr (wsize bl 64) (all_wv _) 0 (cs := (wv (List.replicate 64 0))) (e := 156) kr (by rw [show wv (List.replicate 64 0) = wv (row bl 0) from rfl,wsize]; omega)) ?_
 rintro ⟨⟩ -
 refine CfgL.setO (congrArg (fun (xq : Array Value) => ([(xw,.cells xq 156 (0,0)),(b,.cells (stC hs bl held total) 135 (0,0))] : LO)) (show _ = (wv (row bl 64)) from spl_all ((wsize bl 64).trans (wsize bl 0).symm))) ?_
 refine CfgL.done rfl ?_
 refine Cg (Γ' := [(2,[],pT xw),(0,[],pT b)]) ?_
 refine Cfg.regD rfl kr [0,2,3,4,5,6] [dZ,dZ,dZ,dZ,(dS (.int .u32 (rg hs 0 : Int))),dZ,dZ,dZ,dZ,(dS (.int .u32 (rg hs 1 : Int))),dZ,dZ,dZ,dZ,(dS (.int .u32 (rg hs 2 : Int))),dZ,dZ,dZ,dZ,(dS (.int .u32 (rg hs 3 : Int)))] (Γ' := [(6,[],.int .u32 (rg hs 3 : Int)),(5,[],.int .u32 (rg hs 2 : Int)),(4,[],.int .u32 (rg hs 1 : Int)),(3,[],.int .u32 (rg hs 0 : Int)),(2,[],pT xw),(0,[],pT b)]) (nd := (fun S => [(iL (0 : Int) 8),(cE S b 0 (.int .u32 (rg hs 0 : Int))),(iL (1 : Int) 8),(cE S b 1 (.int .u32 (rg hs 1 : Int))),(iL (2 : Int) 8),(cE S b 2 (.int .u32 (rg hs 2 : Int))),(iL (3 : Int) 8),(cE S b 3 (.int .u32 (rg hs 3 : Int)))])) kr kr (fun _ => kr) ⟨om,(fun w1 h => h.ocell 1 rfl (st_sum hh om)),om,(fun w1 h => h.ocell 1 rfl (st_sum hh om)),om,(fun w1 h => h.ocell 1 rfl (st_sum hh om)),om,(fun w1 h => h.ocell 1 rfl (st_sum hh om)),trivial⟩ ?_
 refine Cfg.regD rfl kr [0,2,3,4,5,6,7,8,9,10] [dZ,dZ,dZ,dZ,(dS (.int .u32 (rg hs 4 : Int))),dZ,dZ,dZ,dZ,(dS (.int .u32 (rg hs 5 : Int))),dZ,dZ,dZ,dZ,(dS (.int .u32 (rg hs 6 : Int))),dZ,dZ,dZ,dZ,(dS (.int .u32 (rg hs 7 : Int)))] (Γ' := [(10,[],.int .u32 (rg hs 7 : Int)),(9,[],.int .u32 (rg hs 6 : Int)),(8,[],.int .u32 (rg hs 5 : Int)),(7,[],.int .u32 (rg hs 4 : Int)),(6,[],.int .u32 (rg hs 3 : Int)),(5,[],.int .u32 (rg hs 2 : Int)),(4,[],.int .u32 (rg hs 1 : Int)),(3,[],.int .u32 (rg hs 0 : Int)),(2,[],pT xw),(0,[],pT b)]) (nd := (fun S => [(iL (4 : Int) 8),(cE S b 4 (.int .u32 (rg hs 4 : Int))),(iL (5 : Int) 8),(cE S b 5 (.int .u32 (rg hs 5 : Int))),(iL (6 : Int) 8),(cE S b 6 (.int .u32 (rg hs 6 : Int))),(iL (7 : Int) 8),(cE S b 7 (.int .u32 (rg hs 7 : Int)))])) kr kr (fun _ => kr) ⟨om,(fun w1 h => h.ocell 1 rfl (st_sum hh om)),om,(fun w1 h => h.ocell 1 rfl (st_sum hh om)),om,(fun w1 h => h.ocell 1 rfl (st_sum hh om)),om,(fun w1 h => h.ocell 1 rfl (st_sum hh om)),trivial⟩ ?_
 refine Rg [0,2,3,4,5,6,7,8,9,10,62] [] n0 trivial ?_
 refine Cfg.loop rfl (ι := Nat) (fun (t : Nat) => [(62,[],.int .i64 (t : Int)),(10,[],.int .u32 ((rv hs bl t).h : Int)),(9,[],.int .u32 ((rv hs bl t).g : Int)),(8,[],.int .u32 ((rv hs bl t).f : Int)),(7,[],.int .u32 ((rv hs bl t).e : Int)),(6,[],.int .u32 ((rv hs bl t).d : Int)),(5,[],.int .u32 ((rv hs bl t).c : Int)),(4,[],.int .u32 ((rv hs bl t).b : Int)),(3,[],.int .u32 ((rv hs bl t).a : Int)),(2,[],pT xw),(0,[],pT b)]) (fun (t : Nat) => [(xw,.cells (wv (row bl 64)) 156 (0,0)),(b,.cells (stC hs bl held total) 135 (0,0))]) (fun (t : Nat) => (t ≤ 64)) (fun (t : Nat) => 64 - t) 0 ?_ (Conv.mk kr) (.cons_cons _ (.cons_cons _ .slnil)) ?_
 ·exact Nat.zero_le _
 ·rintro t ht
  have ok := rv_ok hlt bl t
  refine Rg [0,2,3,4,5,6,7,8,9,10,62,63] [] n0 trivial ?_
  refine Cfg.cond rfl (b := (decide ((t : Int) < (64 : Int)))) kr (fun c1r => ?_) (fun c1r => ?_)
  ·have c1 := (dT c1r)
   refine Rg [0,2,3,4,5,6,7,8,9,10,11,62] [] n0 trivial ?_
   refine Cfg.begL rfl ?_
   refine Lp 1 [] none n0 trivial ?_
   refine Le (Eff.callA (vs := [.int .u32 ((rv hs bl t).e : Int),.int .i64 (-6)]) (.int .u32 (rotl ((rv hs bl t).e) 67108864 64 : Int)) rfl Tryz.func101 rfl rfl kr (fun w1 _ => rot26 _ w1 ok.e)) ?_
   rintro ⟨⟩ -
   refine Lp 1 [] (some [0,2,3,4,5,6,7,8,9,10,11,62,66,67]) n0 trivial ?_
   refine Le (Eff.callA (vs := [.int .u32 ((rv hs bl t).e : Int),.int .i64 (-11)]) (.int .u32 (rotl ((rv hs bl t).e) 2097152 2048 : Int)) rfl Tryz.func101 rfl rfl kr (fun w1 _ => rot21 _ w1 ok.e)) ?_
   rintro ⟨⟩ -
   refine Lp 2 [] (some [0,2,3,4,5,6,7,8,9,10,11,62,69,70]) (fun _ => [((0 ≤ (rotl ((rv hs bl t).e) 67108864 64 : Int) ∧ (rotl ((rv hs bl t).e) 67108864 64 : Int) ≤ 4294967295) ∧ 0 ≤ (rotl ((rv hs bl t).e) 2097152 2048 : Int) ∧ (rotl ((rv hs bl t).e) 2097152 2048 : Int) ≤ 4294967295)]) ⟨⟨⟨Int.natCast_nonneg _,le_pow (b := 32) (rotl_lt ok.e)⟩,⟨Int.natCast_nonneg _,le_pow (b := 32) (rotl_lt ok.e)⟩⟩,trivial⟩ ?_
   refine Le (Eff.callA (vs := [.int .u32 ((rv hs bl t).e : Int),.int .i64 (-25)]) (.int .u32 (rotl ((rv hs bl t).e) 128 33554432 : Int)) rfl Tryz.func101 rfl rfl kr (fun w1 _ => rot7 _ w1 ok.e)) ?_
   rintro ⟨⟩ -
   refine Lp 2 [] (some [0,2,3,4,5,6,7,8,9,10,11,12,62]) (fun _ => [((0 ≤ ((((rotl ((rv hs bl t).e) 67108864 64 : Int)).toNat ^^^ ((rotl ((rv hs bl t).e) 2097152 2048 : Int)).toNat : Nat) : Int) ∧ ((((rotl ((rv hs bl t).e) 67108864 64 : Int)).toNat ^^^ ((rotl ((rv hs bl t).e) 2097152 2048 : Int)).toNat : Nat) : Int) ≤ 4294967295) ∧ 0 ≤ (rotl ((rv hs bl t).e) 128 33554432 : Int) ∧ (rotl ((rv hs bl t).e) 128 33554432 : Int) ≤ 4294967295)]) ⟨⟨⟨Int.natCast_nonneg _,le_pow (b := 32) (Nat.xor_lt_two_pow (tn_lt (rotl_lt ok.e)) (tn_lt (rotl_lt ok.e)))⟩,⟨Int.natCast_nonneg _,le_pow (b := 32) (rotl_lt ok.e)⟩⟩,trivial⟩ ?_
   refine CfgL.done rfl ?_
   refine Cfg.setS 12 (congrArg (fun (xq : Int) => (.int .u32 xq : Value)) (show (((((((rotl ((rv hs bl t).e) 67108864 64 : Int)).toNat ^^^ ((rotl ((rv hs bl t).e) 2097152 2048 : Int)).toNat : Nat) : Int)).toNat ^^^ ((rotl ((rv hs bl t).e) 128 33554432 : Int)).toNat : Nat) : Int) = (bigE (rv hs bl t).e : Int) from bigE_eq _)) ?_
   refine Rg [0,2,3,4,5,6,7,8,9,10,11,12,13,62] [] (fun _ => [((0 ≤ ((rv hs bl t).e : Int) ∧ ((rv hs bl t).e : Int) ≤ 4294967295) ∧ 0 ≤ ((rv hs bl t).f : Int) ∧ ((rv hs bl t).f : Int) ≤ 4294967295),((0 ≤ (4294967295 : Int) ∧ (4294967295 : Int) ≤ 4294967295) ∧ 0 ≤ ((rv hs bl t).e : Int) ∧ ((rv hs bl t).e : Int) ≤ 4294967295),((0 ≤ ((4294967295 ^^^ (((rv hs bl t).e : Int)).toNat : Nat) : Int) ∧ ((4294967295 ^^^ (((rv hs bl t).e : Int)).toNat : Nat) : Int) ≤ 4294967295) ∧ 0 ≤ ((rv hs bl t).g : Int) ∧ ((rv hs bl t).g : Int) ≤ 4294967295),((0 ≤ (((((rv hs bl t).e : Int)).toNat &&& (((rv hs bl t).f : Int)).toNat : Nat) : Int) ∧ (((((rv hs bl t).e : Int)).toNat &&& (((rv hs bl t).f : Int)).toNat : Nat) : Int) ≤ 4294967295) ∧ 0 ≤ (((((4294967295 ^^^ (((rv hs bl t).e : Int)).toNat : Nat) : Int)).toNat &&& (((rv hs bl t).g : Int)).toNat : Nat) : Int) ∧ (((((4294967295 ^^^ (((rv hs bl t).e : Int)).toNat : Nat) : Int)).toNat &&& (((rv hs bl t).g : Int)).toNat : Nat) : Int) ≤ 4294967295)]) ⟨⟨⟨Int.natCast_nonneg _,le_pow (b := 32) ok.e⟩,⟨Int.natCast_nonneg _,le_pow (b := 32) ok.f⟩⟩,⟨⟨by omega,by omega⟩,⟨Int.natCast_nonneg _,le_pow (b := 32) ok.e⟩⟩,⟨⟨Int.natCast_nonneg _,le_pow (b := 32) (Nat.xor_lt_two_pow om (tn_lt ok.e))⟩,⟨Int.natCast_nonneg _,le_pow (b := 32) ok.g⟩⟩,⟨⟨Int.natCast_nonneg _,le_pow (b := 32) (Nat.and_lt_two_pow _ (tn_lt ok.f))⟩,⟨Int.natCast_nonneg _,le_pow (b := 32) (Nat.and_lt_two_pow _ (tn_lt ok.g))⟩⟩,trivial⟩ ?_
   refine Cfg.setS 13 (congrArg (fun (xq : Int) => (.int .u32 xq : Value)) (show ((((((((rv hs bl t).e : Int)).toNat &&& (((rv hs bl t).f : Int)).toNat : Nat) : Int)).toNat ^^^ ((((((4294967295 ^^^ (((rv hs bl t).e : Int)).toNat : Nat) : Int)).toNat &&& (((rv hs bl t).g : Int)).toNat : Nat) : Int)).toNat : Nat) : Int) = (choi (rv hs bl t).e (rv hs bl t).f (rv hs bl t).g : Int) from choi_eq _ _ _)) ?_
   refine Cfg.regD rfl kr [0,2,3,4,5,6,7,8,9,14,62] [dZ,dZ,dZ,dZ,dZ,dZ,dZ,(dS (.int .u32 (rg Kc t : Int))),dZ,dZ,dZ,(dS (.int .u32 (rg (row bl 64) t : Int)))] (Γ' := [(14,[],.int .u32 ((((((((((rv hs bl t).h : Int) + (bigE (rv hs bl t).e : Int)) % 4294967296) + (choi (rv hs bl t).e (rv hs bl t).f (rv hs bl t).g : Int)) % 4294967296) + (rg Kc t : Int)) % 4294967296) + (rg (row bl 64) t : Int)) % 4294967296)),(62,[],.int .i64 (t : Int)),(9,[],.int .u32 ((rv hs bl t).g : Int)),(8,[],.int .u32 ((rv hs bl t).f : Int)),(7,[],.int .u32 ((rv hs bl t).e : Int)),(6,[],.int .u32 ((rv hs bl t).d : Int)),(5,[],.int .u32 ((rv hs bl t).c : Int)),(4,[],.int .u32 ((rv hs bl t).b : Int)),(3,[],.int .u32 ((rv hs bl t).a : Int)),(2,[],pT xw),(0,[],pT b)]) (nd := (fun S => [(iL (t : Int) 64),(cE S 0 t (.int .u32 (rg Kc t : Int))),(iL (t : Int) 64),(cE S xw t (.int .u32 (rg (row bl 64) t : Int)))])) kr kr (fun _ => kr) ⟨om,(fun w1 h => h.rcell 0 rfl (hK _ om)),om,(oC 0 rfl (wv_get (row_len bl 64) om)),trivial⟩ ?_
   refine Cfg.setS 14 (congrArg (fun (xq : Int) => (.int .u32 xq : Value)) (show ((((((((((rv hs bl t).h : Int) + (bigE (rv hs bl t).e : Int)) % 4294967296) + (choi (rv hs bl t).e (rv hs bl t).f (rv hs bl t).g : Int)) % 4294967296) + (rg Kc t : Int)) % 4294967296) + (rg (row bl 64) t : Int)) % 4294967296) = (frst (rg Kc t) (rg (row bl 64) t) (rv hs bl t) : Int) from frst_eq _ _ _)) ?_
   refine Cfg.begL rfl ?_
   refine Lp 1 [] none n0 trivial ?_
   refine Le (Eff.callA (vs := [.int .u32 ((rv hs bl t).a : Int),.int .i64 (-2)]) (.int .u32 (rotl ((rv hs bl t).a) 1073741824 4 : Int)) rfl Tryz.func101 rfl rfl kr (fun w1 _ => rot30 _ w1 ok.a)) ?_
   rintro ⟨⟩ -
   refine Lp 1 [] (some [0,2,3,4,5,6,7,8,9,14,62,95,96]) n0 trivial ?_
   refine Le (Eff.callA (vs := [.int .u32 ((rv hs bl t).a : Int),.int .i64 (-13)]) (.int .u32 (rotl ((rv hs bl t).a) 524288 8192 : Int)) rfl Tryz.func101 rfl rfl kr (fun w1 _ => rot19 _ w1 ok.a)) ?_
   rintro ⟨⟩ -
   refine Lp 2 [] (some [0,2,3,4,5,6,7,8,9,14,62,98,99]) (fun _ => [((0 ≤ (rotl ((rv hs bl t).a) 1073741824 4 : Int) ∧ (rotl ((rv hs bl t).a) 1073741824 4 : Int) ≤ 4294967295) ∧ 0 ≤ (rotl ((rv hs bl t).a) 524288 8192 : Int) ∧ (rotl ((rv hs bl t).a) 524288 8192 : Int) ≤ 4294967295)]) ⟨⟨⟨Int.natCast_nonneg _,le_pow (b := 32) (rotl_lt ok.a)⟩,⟨Int.natCast_nonneg _,le_pow (b := 32) (rotl_lt ok.a)⟩⟩,trivial⟩ ?_
   refine Le (Eff.callA (vs := [.int .u32 ((rv hs bl t).a : Int),.int .i64 (-22)]) (.int .u32 (rotl ((rv hs bl t).a) 1024 4194304 : Int)) rfl Tryz.func101 rfl rfl kr (fun w1 _ => rot10 _ w1 ok.a)) ?_
   rintro ⟨⟩ -
   refine Lp 2 [] (some [0,2,3,4,5,6,7,8,9,14,15,62]) (fun _ => [((0 ≤ ((((rotl ((rv hs bl t).a) 1073741824 4 : Int)).toNat ^^^ ((rotl ((rv hs bl t).a) 524288 8192 : Int)).toNat : Nat) : Int) ∧ ((((rotl ((rv hs bl t).a) 1073741824 4 : Int)).toNat ^^^ ((rotl ((rv hs bl t).a) 524288 8192 : Int)).toNat : Nat) : Int) ≤ 4294967295) ∧ 0 ≤ (rotl ((rv hs bl t).a) 1024 4194304 : Int) ∧ (rotl ((rv hs bl t).a) 1024 4194304 : Int) ≤ 4294967295)]) ⟨⟨⟨Int.natCast_nonneg _,le_pow (b := 32) (Nat.xor_lt_two_pow (tn_lt (rotl_lt ok.a)) (tn_lt (rotl_lt ok.a)))⟩,⟨Int.natCast_nonneg _,le_pow (b := 32) (rotl_lt ok.a)⟩⟩,trivial⟩ ?_
   refine CfgL.done rfl ?_
   refine Cfg.setS 15 (congrArg (fun (xq : Int) => (.int .u32 xq : Value)) (show (((((((rotl ((rv hs bl t).a) 1073741824 4 : Int)).toNat ^^^ ((rotl ((rv hs bl t).a) 524288 8192 : Int)).toNat : Nat) : Int)).toNat ^^^ ((rotl ((rv hs bl t).a) 1024 4194304 : Int)).toNat : Nat) : Int) = (bigA (rv hs bl t).a : Int) from bigA_eq _)) ?_
   refine Rg [0,2,3,4,5,6,7,8,9,14,15,16,62] [] (fun _ => [((0 ≤ ((rv hs bl t).a : Int) ∧ ((rv hs bl t).a : Int) ≤ 4294967295) ∧ 0 ≤ ((rv hs bl t).b : Int) ∧ ((rv hs bl t).b : Int) ≤ 4294967295),((0 ≤ ((rv hs bl t).a : Int) ∧ ((rv hs bl t).a : Int) ≤ 4294967295) ∧ 0 ≤ ((rv hs bl t).c : Int) ∧ ((rv hs bl t).c : Int) ≤ 4294967295),((0 ≤ (((((rv hs bl t).a : Int)).toNat &&& (((rv hs bl t).b : Int)).toNat : Nat) : Int) ∧ (((((rv hs bl t).a : Int)).toNat &&& (((rv hs bl t).b : Int)).toNat : Nat) : Int) ≤ 4294967295) ∧ 0 ≤ (((((rv hs bl t).a : Int)).toNat &&& (((rv hs bl t).c : Int)).toNat : Nat) : Int) ∧ (((((rv hs bl t).a : Int)).toNat &&& (((rv hs bl t).c : Int)).toNat : Nat) : Int) ≤ 4294967295),((0 ≤ ((rv hs bl t).b : Int) ∧ ((rv hs bl t).b : Int) ≤ 4294967295) ∧ 0 ≤ ((rv hs bl t).c : Int) ∧ ((rv hs bl t).c : Int) ≤ 4294967295),((0 ≤ ((((((((rv hs bl t).a : Int)).toNat &&& (((rv hs bl t).b : Int)).toNat : Nat) : Int)).toNat ^^^ ((((((rv hs bl t).a : Int)).toNat &&& (((rv hs bl t).c : Int)).toNat : Nat) : Int)).toNat : Nat) : Int) ∧ ((((((((rv hs bl t).a : Int)).toNat &&& (((rv hs bl t).b : Int)).toNat : Nat) : Int)).toNat ^^^ ((((((rv hs bl t).a : Int)).toNat &&& (((rv hs bl t).c : Int)).toNat : Nat) : Int)).toNat : Nat) : Int) ≤ 4294967295) ∧ 0 ≤ (((((rv hs bl t).b : Int)).toNat &&& (((rv hs bl t).c : Int)).toNat : Nat) : Int) ∧ (((((rv hs bl t).b : Int)).toNat &&& (((rv hs bl t).c : Int)).toNat : Nat) : Int) ≤ 4294967295)]) ⟨⟨⟨Int.natCast_nonneg _,le_pow (b := 32) ok.a⟩,⟨Int.natCast_nonneg _,le_pow (b := 32) ok.b⟩⟩,⟨⟨Int.natCast_nonneg _,le_pow (b := 32) ok.a⟩,⟨Int.natCast_nonneg _,le_pow (b := 32) ok.c⟩⟩,⟨⟨Int.natCast_nonneg _,le_pow (b := 32) (Nat.and_lt_two_pow _ (tn_lt ok.b))⟩,⟨Int.natCast_nonneg _,le_pow (b := 32) (Nat.and_lt_two_pow _ (tn_lt ok.c))⟩⟩,⟨⟨Int.natCast_nonneg _,le_pow (b := 32) ok.b⟩,⟨Int.natCast_nonneg _,le_pow (b := 32) ok.c⟩⟩,⟨⟨Int.natCast_nonneg _,le_pow (b := 32) (Nat.xor_lt_two_pow (tn_lt (Nat.and_lt_two_pow _ (tn_lt ok.b))) (tn_lt (Nat.and_lt_two_pow _ (tn_lt ok.c))))⟩,⟨Int.natCast_nonneg _,le_pow (b := 32) (Nat.and_lt_two_pow _ (tn_lt ok.c))⟩⟩,trivial⟩ ?_
   refine Cfg.setS 16 (congrArg (fun (xq : Int) => (.int .u32 xq : Value)) (show (((((((((((rv hs bl t).a : Int)).toNat &&& (((rv hs bl t).b : Int)).toNat : Nat) : Int)).toNat ^^^ ((((((rv hs bl t).a : Int)).toNat &&& (((rv hs bl t).c : Int)).toNat : Nat) : Int)).toNat : Nat) : Int)).toNat ^^^ ((((((rv hs bl t).b : Int)).toNat &&& (((rv hs bl t).c : Int)).toNat : Nat) : Int)).toNat : Nat) : Int) = (most (rv hs bl t).a (rv hs bl t).b (rv hs bl t).c : Int) from most_eq _ _ _)) ?_
   refine Rg [0,2,3,4,5,6,7,8,9,14,17,62] [] n0 trivial ?_
   refine Cfg.setS 17 (congrArg (fun (xq : Int) => (.int .u32 xq : Value)) (show (((bigA (rv hs bl t).a : Int) + (most (rv hs bl t).a (rv hs bl t).b (rv hs bl t).c : Int)) % 4294967296) = (scnd (rv hs bl t) : Int) from scnd_eq _)) ?_
   refine Rg [0,2,3,4,5,7,8,9,10,14,17,62] [] n0 trivial ?_
   refine Rg [0,2,3,4,5,6,7,8,9,10,62] [] n0 trivial ?_
   refine Rg [0,2,3,4,5,6,7,8,9,10,62] [] (fun _ => [(i6 ((t : Int) + 1))]) ⟨om,trivial⟩ ?_
   refine Cfg.setS 3 (congrArg (fun (xq : Int) => (.int .u32 xq : Value)) (show (((frst (rg Kc t) (rg (row bl 64) t) (rv hs bl t) : Int) + (scnd (rv hs bl t) : Int)) % 4294967296) = ((rv hs bl (t + 1)).a : Int) from rv_a hs bl t)) ?_
   refine Cfg.setS 4 (congrArg (fun (xq : Int) => (.int .u32 xq : Value)) (show ((rv hs bl t).a : Int) = ((rv hs bl (t + 1)).b : Int) from rv_b hs bl t)) ?_
   refine Cfg.setS 5 (congrArg (fun (xq : Int) => (.int .u32 xq : Value)) (show ((rv hs bl t).b : Int) = ((rv hs bl (t + 1)).c : Int) from rv_c hs bl t)) ?_
   refine Cfg.setS 6 (congrArg (fun (xq : Int) => (.int .u32 xq : Value)) (show ((rv hs bl t).c : Int) = ((rv hs bl (t + 1)).d : Int) from rv_d hs bl t)) ?_
   refine Cfg.setS 7 (congrArg (fun (xq : Int) => (.int .u32 xq : Value)) (show ((((rv hs bl t).d : Int) + (frst (rg Kc t) (rg (row bl 64) t) (rv hs bl t) : Int)) % 4294967296) = ((rv hs bl (t + 1)).e : Int) from rv_e hs bl t)) ?_
   refine Cfg.setS 8 (congrArg (fun (xq : Int) => (.int .u32 xq : Value)) (show ((rv hs bl t).e : Int) = ((rv hs bl (t + 1)).f : Int) from rv_f hs bl t)) ?_
   refine Cfg.setS 9 (congrArg (fun (xq : Int) => (.int .u32 xq : Value)) (show ((rv hs bl t).f : Int) = ((rv hs bl (t + 1)).g : Int) from rv_g hs bl t)) ?_
   refine Cfg.setS 10 (congrArg (fun (xq : Int) => (.int .u32 xq : Value)) (show ((rv hs bl t).g : Int) = ((rv hs bl (t + 1)).h : Int) from rv_h hs bl t)) ?_
   refine Cfg.again rfl (t + 1) (by show t + 1 ≤ 64; omega) (by show 64 - (t + 1) < 64 - t; omega) (Conv.mk kr) (.cons_cons _ (.cons_cons _ .slnil))
  ·have c1 := (dF c1r)
   refine Rg [0,137,138] [dZ,dZ,dZ,dZ,dZ,dZ,dZ,dZ,(dS (.agg (wv (w8l (rv hs bl t)))))] (fun S => [(∀ w1,S w1 → (Instr.build 132 #[(0,.int .u32 ((rv hs bl t).a : Int)),(1,.int .u32 ((rv hs bl t).b : Int)),(2,.int .u32 ((rv hs bl t).c : Int)),(3,.int .u32 ((rv hs bl t).d : Int)),(4,.int .u32 ((rv hs bl t).e : Int)),(5,.int .u32 ((rv hs bl t).f : Int)),(6,.int .u32 ((rv hs bl t).g : Int)),(7,.int .u32 ((rv hs bl t).h : Int))]).run Tryz.prog w1 = .ok (.agg (wv (w8l (rv hs bl t)))) w1)]) ⟨(fun _ _ => kr),trivial⟩ ?_
   refine Cfg.loop rfl (ι := Nat) (fun (k : Nat) => [(138,[],.int .i64 (k : Int)),(137,[],.agg (wv (w8l (rv hs bl t)))),(0,[],pT b)]) (fun (k : Nat) => [(xw,.cells (wv (row bl 64)) 156 (0,0)),(b,.cells (stC (sm hs (w8l (rv hs bl t)) k) bl held total) 135 (0,0))]) (fun (k : Nat) => (k ≤ 8)) (fun (k : Nat) => 8 - k) 0 ?_ (Conv.mk kr) (.cons_cons _ (.cons_cons _ .slnil)) ?_
   ·exact Nat.zero_le _
   ·rintro k hk
    refine Rg [0,137,138,139] [] n0 trivial ?_
    refine Cfg.cond rfl (b := (decide ((k : Int) < (8 : Int)))) kr (fun c2r => ?_) (fun c2r => ?_)
    ·have c2 := (dT c2r)
     refine Rg [0,18,19,137,138] [dZ,(dS (.int .u32 (rg (w8l (rv hs bl t)) k : Int)))] (fun _ => [(iL (k : Int) 8),(((wv (w8l (rv hs bl t))))[k]? = some (.int .u32 (rg (w8l (rv hs bl t)) k : Int)))]) ⟨om,(wv_get (w8l_len _) om),trivial⟩ ?_
     refine Cfg.begA rfl kr [(xw,.cells (wv (row bl 64)) 156 (0,0))] ?_
     refine Ap [0,1,2,3,4,6,8,9] [] (some [0,137,138,143,146,148,151]) (bF 863 12) (.cons_cons _ (.cons _ .slnil)) 4 (fun _ => [(iL (k : Int) 8)]) ⟨om,trivial⟩ ?_
     refine Ae 5 rfl 3  (Eff.quiet (raw := false) (orc := some (.int .u32 (rg (sm hs (w8l (rv hs bl t)) k) k : Int))) (v := .int .u32 (rg (sm hs (w8l (rv hs bl t)) k) k : Int)) (nd := (fun S => [(cE S b k (.int .u32 (rg (sm hs (w8l (rv hs bl t)) k) k : Int)))])) (fun _ => kr) ⟨(fun w1 h => h.ocell 1 rfl (st_sum (sm_len _ hh k) om)),trivial⟩ kr) (fun _ _ => (.cons_cons _ (.cons _ .slnil))) ?_
     rintro ⟨⟩ -
     refine Ap [7,10] [] (some [0,137,138,149,152]) (tF 11 1) (.cons_cons _ (.cons _ .slnil)) 1 (fun _ => [(iL (k : Int) 8)]) ⟨om,trivial⟩ ?_
     refine Ae 11 rfl 0  (Eff.store1 (b := b) (off := k) (v := .int .u32 (((rg (sm hs (w8l (rv hs bl t)) k) k : Int) + (rg (w8l (rv hs bl t)) k : Int)) % 4294967296)) rfl kr kr rfl kr 1 (cs := (stC (sm hs (w8l (rv hs bl t)) k) bl held total)) (e := 135) kr (by rw [st_size (sm_len _ hh k) hb]; omega)) (fun _ _ => (.cons_cons _ (.cons _ .slnil))) ?_
     rintro ⟨⟩ -
     refine CfgA.done kr ?_
     refine Cg (Γ' := [(138,[],.int .i64 (k : Int)),(137,[],.agg (wv (w8l (rv hs bl t)))),(0,[],pT b)]) ?_
     refine Rg [0,137,138] [] (fun _ => [(i6 ((k : Int) + 1))]) ⟨om,trivial⟩ ?_
     refine Cfg.setO (congrArg (fun (xq : Array Value) => ([(xw,.cells (wv (row bl 64)) 156 (0,0)),(b,.cells xq 135 (0,0))] : LO)) (show _ = (stC (sm hs (w8l (rv hs bl t)) (k + 1)) bl held total) from sm_step hh om)) ?_
     refine Cfg.again rfl (k + 1) (by show k + 1 ≤ 8; omega) (by show 8 - (k + 1) < 8 - k; omega) (Conv.mk kr) (.cons_cons _ (.cons_cons _ .slnil))
    ·have c2 := (dF c2r)
     refine Cfg.fin rfl (rs := []) rfl [] trivial (fun w1 hp => ?_)
     obtain rfl : t = 64 := by omega
     obtain rfl : k = 8 := by omega
     exact ⟨rfl,hp.ext,hp.own (b,_) (List.mem_cons_of_mem _ mH)⟩
end Go.Proofs.YtbeegepcdglcaaaGreatDoor
namespace Go.Proofs.YtbeegepcdglcaaaGreatDoor
open K
set_option linter.unusedVariables false
set_option maxRecDepth 100000 in
theorem shaWrite (b : Nat) (z : Sh) (total : Nat) (s : ByteArray) {kt : Array Value} {t0 : TypeId} {fr0 : Nat × Nat} (w : World) (hx : z.Ok) (hR : Has w [(0,.cells kt t0 fr0)]) (hS : w.heap[b]? = some (.cells (stC z.hs z.bl z.held total) 135 (0,0))) (hne : b ≠ 0) (hK : KT kt := by assumption) :
  Calls Tryz.prog 53 #[.pointer (some ⟨b,0,none⟩),.string s] w fun e w' => e = .returned (.tuple #[]) ∧ Ext [b] w w' ∧ w'.heap[b]? = some (.cells (stC (feed z s.data.toList).hs (feed z s.data.toList).bl (feed z s.data.toList).held ((total + s.size) % 18446744073709551616)) 135 (0,0)) := by
 refine enter (vs := [pT b,.string s]) [b] [(0,.cells kt t0 fr0)] [(b,.cells (stC z.hs z.bl z.held total) 135 (0,0))] Tryz.func53 rfl kr (HP.startM hR hS (by simpa using hne)) ?_
 refine Cfg.begL rfl ?_
 refine Lp 10 [dZ,dZ,dZ,(dS (.int .u64 (total : Int)))] (some [0,1,12,14]) (fun S => [(cE S b 73 (.int .u64 (total : Int)))]) ⟨(fun w1 h => h.ocell 0 rfl (st_total hx.hh hx.hb)),trivial⟩ ?_
 refine Le (Eff.store1 (b := b) (off := 73) (v := .int .u64 (((total : Int) + ((s.size : Int) % 18446744073709551616)) % 18446744073709551616)) rfl kr kr rfl kr 0 (cs := (stC z.hs z.bl z.held total)) (e := 135) kr (by rw [st_size hx.hh hx.hb]; omega)) ?_
 rintro ⟨⟩ -
 refine CfgL.done rfl ?_
 refine Cg (Γ' := [(0,[],pT b),(1,[],.string s)]) ?_
 refine Cfg.setO (congrArg (fun (xq : Array Value) => ([(b,.cells xq 135 (0,0))] : LO)) (show _ = (stC z.hs z.bl z.held ((total + s.size) % 18446744073709551616)) from st_setTotal hx.hh hx.hb om)) ?_
 refine Cfg.loop rfl (ι := ByteArray × Sh) (fun (xz : ByteArray × Sh) => match xz with | (p,y) => [(0,[],pT b),(1,[],.string p)]) (fun (xz : ByteArray × Sh) => match xz with | (p,y) => [(b,.cells (stC y.hs y.bl y.held ((total + s.size) % 18446744073709551616)) 135 (0,0))]) (fun (xz : ByteArray × Sh) => match xz with | (p,y) => (y.Ok) ∧ (feed y p.data.toList = feed z s.data.toList)) (fun (xz : ByteArray × Sh) => match xz with | (p,y) => p.size) (s,z) ?_ (Conv.mk kr) (.cons_cons _ .slnil) ?_
 ·exact ⟨hx,rfl⟩
 ·rintro ⟨p,y⟩ ⟨oky,hf⟩
  obtain ⟨hs,bl,held⟩ := y
  obtain ⟨hh,hb,hlt,hld⟩ := oky
  dsimp only at hh hb hlt hld
  have hcn : cn p held = min p.size (64 - held) := rfl
  refine Rg [0,1,17] [] n0 trivial ?_
  refine Cfg.cond rfl (b := (decide ((p.size : Int) > (0 : Int)))) kr (fun c1r => ?_) (fun c1r => ?_)
  ·have c1 := (dT c1r)
   refine Cfg.begA rfl kr [] ?_
   refine Ap [0,1,2,3,4,5,8] [] (some [0,1,20,23,26]) (bF 319 11) (.cons _ .slnil) 4 n0 trivial ?_
   refine Ae 6 rfl 3  (Eff.quiet (raw := false) (orc := some (.int .i64 (held : Int))) (v := .int .i64 (held : Int)) (nd := (fun S => [(cE S b 72 (.int .i64 (held : Int)))])) (fun _ => kr) ⟨(fun w1 h => h.ocell 0 rfl (st_held hh hb)),trivial⟩ kr) (fun _ _ => List.nil_sublist _) ?_
   rintro ⟨⟩ -
   refine Ap [7] [] (some [0,1,25,26]) (tF 9 2) (.cons _ .slnil) 2 (fun _ => [(0 ≤ (held : Int)),(held ≤ 64 ∧ 64 ≤ 64)]) ⟨om,om,trivial⟩ ?_
   refine Ae 9 rfl 1  (Eff.copyS rfl Tryz.underlying53 kr (b := b) (off := (if 64 = held then 8 else (addO 8 held))) (dl := ((64 - held))) (c := ((64 - held))) kr (s := p) kr 0 (cs := (stC hs bl held ((total + s.size) % 18446744073709551616))) (te := 135) kr (cn p held) rfl (by rw [off_eq hld,st_size hh hb]; omega)) (fun _ _ => List.nil_sublist _) ?_
   rintro ⟨⟩ -
   refine Ap [10] [] (some [0,1,4]) (tF 11 0) (.cons _ .slnil) 0 n0 trivial ?_
   refine CfgA.done kr ?_
   refine Cfg.setO (congrArg (fun (xq : Array Value) => ([(b,.cells xq 135 (0,0))] : LO)) (show _ = (stC hs (lay bl held (p.data.toList.take (cn p held))) held ((total + s.size) % 18446744073709551616)) from by rw [off_eq hld]; exact spl_lay _ hh hb (by rw [part_len om]; omega))) ?_
   refine Rg [0,1,4] [] (fun _ => [(0 ≤ ((cn p held) : Int)),(((cn p held)) ≤ p.size ∧ p.size ≤ p.size)]) ⟨om,om,trivial⟩ ?_
   refine Cfg.begL rfl ?_
   refine Lp 8 [dZ,dZ,dZ,(dS (.int .i64 (held : Int)))] (some [0,1,36,38]) (fun S => [(cE S b 72 (.int .i64 (held : Int))),(i6 ((held : Int) + ((cn p held) : Int)))]) ⟨(fun w1 h => h.ocell 0 rfl (st_held hh ((lay_len _ _ _).trans hb))),om,trivial⟩ ?_
   refine Le (Eff.store1 (b := b) (off := 72) (v := .int .i64 ((held : Int) + ((cn p held) : Int))) rfl kr kr rfl kr 0 (cs := (stC hs (lay bl held (p.data.toList.take (cn p held))) held ((total + s.size) % 18446744073709551616))) (e := 135) kr (by rw [st_size hh ((lay_len _ _ _).trans hb)]; omega)) ?_
   rintro ⟨⟩ -
   refine CfgL.done rfl ?_
   refine Cg (Γ' := [(1,[],.string (p.extract (((cn p held))) p.size)),(0,[],pT b)]) ?_
   refine Cfg.setO (congrArg (fun (xq : Array Value) => ([(b,.cells xq 135 (0,0))] : LO)) (show _ = (stC hs (lay bl held (p.data.toList.take (cn p held))) (held + (cn p held)) ((total + s.size) % 18446744073709551616)) from st_setHeld hh ((lay_len _ _ _).trans hb) om)) ?_
   refine Rg [0,1,43] [dZ,dZ,dZ,(dS (.int .i64 ((held + (cn p held)) : Int)))] (fun S => [(cE S b 72 (.int .i64 ((held + (cn p held)) : Int)))]) ⟨(fun w1 h => h.ocell 0 rfl (st_held hh ((lay_len _ _ _).trans hb))),trivial⟩ ?_
   refine Cfg.cond rfl (b := (((held + (cn p held)) : Int) == (64 : Int))) kr (fun c2r => ?_) (fun c2r => ?_)
   ·have c2 := (beq_iff_eq.1 c2r)
    refine Cfg.begL rfl ?_
    refine Lp 1 [] (some [0,1,44]) n0 trivial ?_
    refine Le (Eff.callM (vs := [pT b]) (.tuple #[]) 0 (b := b) (ob := .cells (stC hs (lay bl held (p.data.toList.take (cn p held))) (held + (cn p held)) ((total + s.size) % 18446744073709551616)) 135 (0,0)) (.cells (stC (mixF hs (lay bl held (p.data.toList.take (cn p held)))) (lay bl held (p.data.toList.take (cn p held))) (held + (cn p held)) ((total + s.size) % 18446744073709551616)) 135 (0,0)) rfl Tryz.func75 rfl rfl kr kr (fun w1 h => shaMix b hs (lay bl held (p.data.toList.take (cn p held))) (held + (cn p held)) ((total + s.size) % 18446744073709551616) w1 hh ((lay_len _ _ _).trans hb) hlt (h.hasR (fun e he => he)) (h.own _ mH) hne)) ?_
    rintro ⟨⟩ -
    refine CfgL.done rfl ?_
    refine Cg (Γ' := [(1,[],.string (p.extract (((cn p held))) p.size)),(0,[],pT b)]) ?_
    refine Cfg.begL rfl ?_
    refine Lp 3 [] (some [0,1,48]) n0 trivial ?_
    refine Le (Eff.store1 (b := b) (off := 72) (v := .int .i64 0) rfl kr kr rfl kr 0 (cs := (stC (mixF hs (lay bl held (p.data.toList.take (cn p held)))) (lay bl held (p.data.toList.take (cn p held))) (held + (cn p held)) ((total + s.size) % 18446744073709551616))) (e := 135) kr (by rw [st_size (mixF_len _ hh) ((lay_len _ _ _).trans hb)]; omega)) ?_
    rintro ⟨⟩ -
    refine CfgL.done rfl ?_
    refine Cg (Γ' := [(1,[],.string (p.extract (((cn p held))) p.size)),(0,[],pT b)]) ?_
    have hfull : held + (cn p held) = 64 := by omega
    have hfd := feed_full (p.data.toList.take (cn p held)) hs bl held hld (by rw [part_len om]; omega)
    refine Cfg.setO (congrArg (fun (xq : Array Value) => ([(b,.cells xq 135 (0,0))] : LO)) (show _ = (stC (mixF hs (lay bl held (p.data.toList.take (cn p held)))) (lay bl held (p.data.toList.take (cn p held))) 0 ((total + s.size) % 18446744073709551616)) from st_setHeld (mixF_len _ hh) ((lay_len _ _ _).trans hb) rfl)) ?_
    refine Cfg.again rfl (p.extract (cn p held) p.size,⟨mixF hs (lay bl held (p.data.toList.take (cn p held))),(lay bl held (p.data.toList.take (cn p held))),0⟩) ⟨by rw [← hfd]; exact feed_ok _ ⟨hh,hb,hlt,hld⟩,by rw [← hfd,feed_ext]; exact hf⟩ (by show (p.extract (cn p held) p.size).size < p.size; rw [ext_size _ _ om]; omega) (Conv.mk kr) (.cons_cons _ .slnil)
   ·have c2 := (beq_eq_false_iff_ne.1 c2r)
    have hpart : held + (cn p held) < 64 := by omega
    have hfd := feed_part (p.data.toList.take (cn p held)) hs bl held (by rw [part_len om]; omega)
    rw [part_len om] at hfd
    refine Cfg.again rfl (p.extract (cn p held) p.size,⟨hs,(lay bl held (p.data.toList.take (cn p held))),held + (cn p held)⟩) ⟨by rw [← hfd]; exact feed_ok _ ⟨hh,hb,hlt,hld⟩,by rw [← hfd,feed_ext]; exact hf⟩ (by show (p.extract (cn p held) p.size).size < p.size; rw [ext_size _ _ om]; omega) (Conv.mk kr) (.cons_cons _ .slnil)
  ·have c1 := (dF c1r)
   refine Cfg.fin rfl (rs := []) rfl [] trivial (fun w1 hp => ?_)
   have hp0 : p.size = 0 := by omega
   have hnil : p.data.toList = [] := List.eq_nil_of_length_eq_zero (by simpa using hp0)
   rw [hnil,feed_nil] at hf
   rw [← hf]
   exact ⟨rfl,hp.ext,hp.own (b,_) mH⟩
end Go.Proofs.YtbeegepcdglcaaaGreatDoor
namespace Go.Proofs.YtbeegepcdglcaaaGreatDoor
open K
set_option linter.unusedVariables false
theorem shaWrite1 (b : Nat) (z : Sh) (total : Nat) (c : UInt8) {kt : Array Value} {t0 : TypeId} {fr0 : Nat × Nat} (w : World) (hx : z.Ok) (hR : Has w [(0,.cells kt t0 fr0)]) (hS : w.heap[b]? = some (.cells (stC z.hs z.bl z.held total) 135 (0,0))) (hne : b ≠ 0) (hK : KT kt := by assumption) :
  Calls Tryz.prog 53 #[.pointer (some ⟨b,0,none⟩),.string ⟨#[c]⟩] w fun e w' => e = .returned (.tuple #[]) ∧ Ext [b] w w' ∧ w'.heap[b]? = some (.cells (stC (feedB z c).hs (feedB z c).bl (feedB z c).held ((total + 1) % 18446744073709551616)) 135 (0,0)) :=
 shaWrite b z total ⟨#[c]⟩ w hx hR hS hne
set_option maxRecDepth 100000 in
theorem shaEndC (b : Nat) (z : Sh) (total : Nat) {kt : Array Value} {t0 : TypeId} {fr0 : Nat × Nat} (w : World) (hx : z.Ok) (hR : Has w [(0,.cells kt t0 fr0)]) (hS : w.heap[b]? = some (.cells (stC z.hs z.bl z.held total) 135 (0,0))) (hne : b ≠ 0) (hK : KT kt := by assumption) :
  Calls Tryz.prog 54 #[.pointer (some ⟨b,0,none⟩)] w fun e w' => e = .returned (.agg (bv (shaEnd z total))) ∧ Ext [b] w w' := by
 refine enter (vs := [pT b]) [b] [(0,.cells kt t0 fr0)] [(b,.cells (stC z.hs z.bl z.held total) 135 (0,0))] Tryz.func54 rfl kr (HP.startM hR hS (by simpa using hne)) ?_
 refine Cfg.begL rfl ?_
 refine Le (Eff.alloc (z := (.agg (bv (List.replicate 32 0)))) rfl kr) ?_
 rintro r ⟨hr,nr⟩
 refine CfgL.done rfl ?_
 refine Rg [0,2,3] [dZ,dZ,dZ,(dS (.int .u64 (total : Int)))] (fun S => [(cE S b 73 (.int .u64 (total : Int)))]) ⟨(fun w1 h => h.ocell 1 rfl (st_total hx.hh hx.hb)),trivial⟩ ?_
 refine Cfg.setS 3 (congrArg (fun (xq : Int) => (.int .u64 xq : Value)) (show (((total : Int) * 8) % 18446744073709551616) = (lb total : Int) from lb_eq total)) ?_
 refine Cfg.begL rfl ?_
 refine Lp 1 [] none n0 trivial ?_
 refine Le (Eff.callM (vs := [pT b,.string ⟨#[128]⟩]) (.tuple #[]) 1 (b := b) (ob := .cells (stC z.hs z.bl z.held total) 135 (0,0)) (.cells (stC (feedB z 128).hs (feedB z 128).bl (feedB z 128).held ((total + 1) % 18446744073709551616)) 135 (0,0)) rfl Tryz.func53 rfl rfl kr kr (fun w1 h => shaWrite1 b z total 128 w1 hx (h.hasR (fun e he => he)) (h.own _ (mG 1 rfl)) hne)) ?_
 rintro ⟨⟩ -
 refine CfgL.done rfl ?_
 refine Cg (Γ' := [(3,[],.int .u64 (lb total : Int)),(2,[],pT r),(0,[],pT b)]) ?_
 refine Cfg.setO (congrArg (fun (xq : Array Value) => ([(r,.cells (bv (List.replicate 32 0)) 36 (0,0)),(b,.cells xq 135 (0,0))] : LO)) (show _ = (stC (pz z 0).hs (pz z 0).bl (pz z 0).held (tj total 0)) from by rw [pz_zero,tj_zero])) ?_
 refine Cfg.loop rfl (ι := Nat) (fun (j : Nat) => [(3,[],.int .u64 (lb total : Int)),(2,[],pT r),(0,[],pT b)]) (fun (j : Nat) => [(r,.cells (bv (List.replicate 32 0)) 36 (0,0)),(b,.cells (stC (pz z j).hs (pz z j).bl (pz z j).held (tj total j)) 135 (0,0))]) (fun (j : Nat) => (j ≤ padN z)) (fun (j : Nat) => padN z - j) 0 ?_ (Conv.mk kr) (.cons_cons _ (.cons_cons _ .slnil)) ?_
 ·exact Nat.zero_le _
 ·rintro j hj
  refine Rg [0,2,3,20] [dZ,dZ,dZ,(dS (.int .i64 ((pz z j).held : Int)))] (fun S => [(cE S b 72 (.int .i64 ((pz z j).held : Int)))]) ⟨(fun w1 h => h.ocell 1 rfl (st_held (pz_ok hx j).hh (pz_ok hx j).hb)),trivial⟩ ?_
  refine Cfg.cond rfl (b := (((pz z j).held : Int) != (56 : Int))) kr (fun c1r => ?_) (fun c1r => ?_)
  ·have c1 := (bne_iff_ne.1 c1r)
   refine Cfg.begL rfl ?_
   refine Lp 1 [] (some [0,2,3,21]) n0 trivial ?_
   refine Le (Eff.callM (vs := [pT b,.string ⟨#[0]⟩]) (.tuple #[]) 1 (b := b) (ob := .cells (stC (pz z j).hs (pz z j).bl (pz z j).held (tj total j)) 135 (0,0)) (.cells (stC (feedB (pz z j) 0).hs (feedB (pz z j) 0).bl (feedB (pz z j) 0).held ((tj total j + 1) % 18446744073709551616)) 135 (0,0)) rfl Tryz.func53 rfl rfl kr kr (fun w1 h => shaWrite1 b (pz z j) (tj total j) 0 w1 (pz_ok hx j) (h.hasR (fun e he => he)) (h.own _ (mG 1 rfl)) hne)) ?_
   rintro ⟨⟩ -
   refine CfgL.done rfl ?_
   refine Cg (Γ' := [(3,[],.int .u64 (lb total : Int)),(2,[],pT r),(0,[],pT b)]) ?_
   have hjn : j ≠ padN z := fun h => c1 ((pad_end hx hj).2 h)
   refine Cfg.setO (congrArg (fun (xq : Array Value) => ([(r,.cells (bv (List.replicate 32 0)) 36 (0,0)),(b,.cells xq 135 (0,0))] : LO)) (show _ = (stC (pz z (j + 1)).hs (pz z (j + 1)).bl (pz z (j + 1)).held (tj total (j + 1))) from by rw [pz_succ,tj_succ])) ?_
   refine Cfg.again rfl (j + 1) (by show j + 1 ≤ padN z; omega) (by show padN z - (j + 1) < padN z - j; omega) (Conv.mk kr) (.cons_cons _ (.cons_cons _ .slnil))
  ·have c1 := (bne_eq_false_iff_eq.1 c1r)
   obtain rfl : j = padN z := (pad_end hx hj).1 c1
   refine Cfg.begL rfl ?_
   refine Le (Eff.alloc (z := (.agg (bv (List.replicate 8 0)))) rfl kr) ?_
   rintro tl ⟨htl,ntl⟩
   refine CfgL.done rfl ?_
   refine Cg (Γ' := [(4,[],pT tl),(3,[],.int .u64 (lb total : Int)),(2,[],pT r),(0,[],pT b)]) ?_
   refine Rg [0,2,3,4,23] [] n0 trivial ?_
   refine Cfg.loop rfl (ι := Nat) (fun (k1 : Nat) => [(23,[],.int .i64 (k1 : Int)),(4,[],pT tl),(3,[],.int .u64 (lb total : Int)),(2,[],pT r),(0,[],pT b)]) (fun (k1 : Nat) => [(tl,.cells (bv (tlr (lb total) k1)) 136 (0,0)),(r,.cells (bv (List.replicate 32 0)) 36 (0,0)),(b,.cells (stC (pz z (padN z)).hs (pz z (padN z)).bl (pz z (padN z)).held (tj total (padN z))) 135 (0,0))]) (fun (k1 : Nat) => (k1 ≤ 8)) (fun (k1 : Nat) => 8 - k1) 0 ?_ (Conv.mk kr) (.cons_cons _ (.cons_cons _ (.cons_cons _ .slnil))) ?_
   ·exact Nat.zero_le _
   ·rintro k1 hk1
    refine Rg [0,2,3,4,23,24] [] n0 trivial ?_
    refine Cfg.cond rfl (b := (decide ((k1 : Int) < (8 : Int)))) kr (fun c2r => ?_) (fun c2r => ?_)
    ·have c2 := (dT c2r)
     refine Rg [0,2,3,4,5,23] [] n0 trivial ?_
     refine Cfg.begL rfl ?_
     refine Lp 8 [] (some [0,2,3,4,23,32,33]) (fun _ => [(i6 (8 * (k1 : Int))),(i6 (56 - (8 * (k1 : Int)))),(0 ≤ (56 - (8 * (k1 : Int))) ∧ ((56 - (8 * (k1 : Int)))).toNat ≤ 64),(iL (k1 : Int) 8)]) ⟨om,om,om,om,trivial⟩ ?_
     refine Le (Eff.store1 (b := tl) (off := k1) (v := .int .u8 (((lb total : Int) / ((2 ^ ((56 - (8 * (k1 : Int)))).toNat : Nat) : Int)) % 256)) rfl kr kr rfl kr 0 (cs := (bv (tlr (lb total) k1))) (e := 136) kr (by rw [bv_size,tlr_len hk1]; omega)) ?_
     rintro ⟨⟩ -
     refine CfgL.done rfl ?_
     refine Cg (Γ' := [(23,[],.int .i64 (k1 : Int)),(4,[],pT tl),(3,[],.int .u64 (lb total : Int)),(2,[],pT r),(0,[],pT b)]) ?_
     refine Rg [0,2,3,4,23] [] (fun _ => [(i6 ((k1 : Int) + 1))]) ⟨om,trivial⟩ ?_
     refine Cfg.setO (congrArg (fun (xq : Array Value) => ([(tl,.cells xq 136 (0,0)),(r,.cells (bv (List.replicate 32 0)) 36 (0,0)),(b,.cells (stC (pz z (padN z)).hs (pz z (padN z)).bl (pz z (padN z)).held (tj total (padN z))) 135 (0,0))] : LO)) (show _ = (bv (tlr (lb total) (k1 + 1))) from tlr_step om rfl)) ?_
     refine Cfg.again rfl (k1 + 1) (by show k1 + 1 ≤ 8; omega) (by show 8 - (k1 + 1) < 8 - k1; omega) (Conv.mk kr) (.cons_cons _ (.cons_cons _ (.cons_cons _ .slnil)))
    ·have c2 := (dF c2r)
     obtain rfl : k1 = 8 := by omega
     refine Conv.cfg (Γ' := [(4,[],pT tl),(3,[],.int .u64 (lb total : Int)),(2,[],pT r),(0,[],pT b)]) (Conv.mk kr) ?_
     refine Cfg.begL rfl ?_
     refine Lp 3 [dZ,dZ,(dS (.string (tls (lb total))))] (some [0,2,35,37]) (fun S => [(8 ≤ 8),(∀ w1,S w1 → (Conv.bytesToString (.slice (some ⟨tl,0,none⟩) 8 8)).run Tryz.prog w1 = .ok (.string (tls (lb total))) w1)]) ⟨om,(fun w1 h => h.ostr 0 rfl (tlr_len (Nat.le_refl 8))),trivial⟩ ?_
     refine Le (Eff.callM (vs := [pT b,.string (tls (lb total))]) (.tuple #[]) 2 (b := b) (ob := .cells (stC (pz z (padN z)).hs (pz z (padN z)).bl (pz z (padN z)).held (tj total (padN z))) 135 (0,0)) (.cells (stC (z3 z total).hs (z3 z total).bl (z3 z total).held ((tj total (padN z) + (tls (lb total)).size) % 18446744073709551616)) 135 (0,0)) rfl Tryz.func53 rfl rfl kr kr (fun w1 h => shaWrite b (pz z (padN z)) (tj total (padN z)) (tls (lb total)) w1 (pz_ok hx _) (h.hasR (fun e he => he)) (h.own _ (mG 2 rfl)) hne)) ?_
     rintro ⟨⟩ -
     refine CfgL.done rfl ?_
     refine Cg (Γ' := [(2,[],pT r),(0,[],pT b)]) ?_
     refine Cfg.begL rfl ?_
     refine Le (Eff.alloc (z := (.agg (bv (List.replicate 32 0)))) rfl kr) ?_
     rintro d ⟨hd,nd⟩
     refine CfgL.done rfl ?_
     refine Rg [2,6,42,43] [dZ,dZ,dZ,(dS (.agg (wv (z3 z total).hs)))] (fun S => [(∀ w1,S w1 → (loadVar 132 ⟨b,0,none⟩).run Tryz.prog w1 = .ok (.agg (wv (z3 z total).hs)) w1)]) ⟨(fun w1 h => load_words Tryz.underlying132 rfl kr (z3_ok hx total).hh (fun j hj => h.ocell 3 rfl (by rw [Nat.zero_add]; exact st_sum (z3_ok hx total).hh hj))),trivial⟩ ?_
     refine Cfg.loop rfl (ι := Nat) (fun (k2 : Nat) => [(43,[],.int .i64 (k2 : Int)),(42,[],.agg (wv (z3 z total).hs)),(6,[],pT d),(2,[],pT r)]) (fun (k2 : Nat) => [(d,.cells (bv (dgr (z3 z total).hs k2)) 36 (0,0)),(tl,.cells (bv (tlr (lb total) 8)) 136 (0,0)),(r,.cells (bv (List.replicate 32 0)) 36 (0,0)),(b,.cells (stC (z3 z total).hs (z3 z total).bl (z3 z total).held ((tj total (padN z) + (tls (lb total)).size) % 18446744073709551616)) 135 (0,0))]) (fun (k2 : Nat) => (k2 ≤ 8)) (fun (k2 : Nat) => 8 - k2) 0 ?_ (Conv.mk kr) (.cons_cons _ (.cons_cons _ (.cons_cons _ (.cons_cons _ .slnil)))) ?_
     ·exact Nat.zero_le _
     ·rintro k2 hk2
      refine Rg [2,6,42,43,44] [] n0 trivial ?_
      refine Cfg.cond rfl (b := (decide ((k2 : Int) < (8 : Int)))) kr (fun c3r => ?_) (fun c3r => ?_)
      ·have c3 := (dT c3r)
       refine Rg [2,6,7,8,42,43] [dZ,(dS (.int .u32 (rg (z3 z total).hs k2 : Int)))] (fun _ => [(iL (k2 : Int) 8),(((wv (z3 z total).hs))[k2]? = some (.int .u32 (rg (z3 z total).hs k2 : Int)))]) ⟨om,(wv_get (z3_ok hx total).hh om),trivial⟩ ?_
       refine Cfg.begL rfl ?_
       refine Lp 6 [] (some [2,6,7,8,42,43,51,52]) (fun _ => [(i6 (4 * (k2 : Int))),(0 ≤ (24 : Int) ∧ 24 ≤ 32),(iL (4 * (k2 : Int)) 32)]) ⟨om,om,om,trivial⟩ ?_
       refine Le (Eff.store1 (b := d) (off := (4 * k2)) (v := .int .u8 (((rg (z3 z total).hs k2 : Int) / 16777216) % 256)) rfl kr kr rfl kr 0 (cs := (bv (dgr (z3 z total).hs k2))) (e := 36) kr (by first | (rw [dsz _ hk2]; omega) | (simp only [Array.size_setIfInBounds,dsz _ hk2]; omega))) ?_
       rintro ⟨⟩ -
       refine CfgL.done rfl ?_
       refine Cg (Γ' := [(8,[],.int .u32 (rg (z3 z total).hs k2 : Int)),(7,[],.int .i64 (k2 : Int)),(43,[],.int .i64 (k2 : Int)),(42,[],.agg (wv (z3 z total).hs)),(6,[],pT d),(2,[],pT r)]) ?_
       refine Cfg.begL rfl ?_
       refine Lp 7 [] (some [2,6,7,8,42,43,58,59]) (fun _ => [(i6 (4 * (k2 : Int))),(i6 ((4 * (k2 : Int)) + 1)),(0 ≤ (16 : Int) ∧ 16 ≤ 32),(iL ((4 * (k2 : Int)) + 1) 32)]) ⟨om,om,om,om,trivial⟩ ?_
       refine Le (Eff.store1 (b := d) (off := ((4 * k2) + 1)) (v := .int .u8 (((rg (z3 z total).hs k2 : Int) / 65536) % 256)) rfl kr kr rfl kr 0 (cs := ((bv (dgr (z3 z total).hs k2)).setIfInBounds (4 * k2) (.int .u8 (((rg (z3 z total).hs k2 : Int) / 16777216) % 256)))) (e := 36) kr (by first | (rw [dsz _ hk2]; omega) | (simp only [Array.size_setIfInBounds,dsz _ hk2]; omega))) ?_
       rintro ⟨⟩ -
       refine CfgL.done rfl ?_
       refine Cg (Γ' := [(8,[],.int .u32 (rg (z3 z total).hs k2 : Int)),(7,[],.int .i64 (k2 : Int)),(43,[],.int .i64 (k2 : Int)),(42,[],.agg (wv (z3 z total).hs)),(6,[],pT d),(2,[],pT r)]) ?_
       refine Cfg.begL rfl ?_
       refine Lp 7 [] (some [2,6,7,8,42,43,65,66]) (fun _ => [(i6 (4 * (k2 : Int))),(i6 ((4 * (k2 : Int)) + 2)),(0 ≤ (8 : Int) ∧ 8 ≤ 32),(iL ((4 * (k2 : Int)) + 2) 32)]) ⟨om,om,om,om,trivial⟩ ?_
       refine Le (Eff.store1 (b := d) (off := ((4 * k2) + 2)) (v := .int .u8 (((rg (z3 z total).hs k2 : Int) / 256) % 256)) rfl kr kr rfl kr 0 (cs := (((bv (dgr (z3 z total).hs k2)).setIfInBounds (4 * k2) (.int .u8 (((rg (z3 z total).hs k2 : Int) / 16777216) % 256))).setIfInBounds ((4 * k2) + 1) (.int .u8 (((rg (z3 z total).hs k2 : Int) / 65536) % 256)))) (e := 36) kr (by first | (rw [dsz _ hk2]; omega) | (simp only [Array.size_setIfInBounds,dsz _ hk2]; omega))) ?_
       rintro ⟨⟩ -
       refine CfgL.done rfl ?_
       refine Cg (Γ' := [(8,[],.int .u32 (rg (z3 z total).hs k2 : Int)),(7,[],.int .i64 (k2 : Int)),(43,[],.int .i64 (k2 : Int)),(42,[],.agg (wv (z3 z total).hs)),(6,[],pT d),(2,[],pT r)]) ?_
       refine Cfg.begL rfl ?_
       refine Lp 6 [] (some [2,6,42,43,71,72]) (fun _ => [(i6 (4 * (k2 : Int))),(i6 ((4 * (k2 : Int)) + 3)),(iL ((4 * (k2 : Int)) + 3) 32)]) ⟨om,om,om,trivial⟩ ?_
       refine Le (Eff.store1 (b := d) (off := ((4 * k2) + 3)) (v := .int .u8 ((rg (z3 z total).hs k2 : Int) % 256)) rfl kr kr rfl kr 0 (cs := ((((bv (dgr (z3 z total).hs k2)).setIfInBounds (4 * k2) (.int .u8 (((rg (z3 z total).hs k2 : Int) / 16777216) % 256))).setIfInBounds ((4 * k2) + 1) (.int .u8 (((rg (z3 z total).hs k2 : Int) / 65536) % 256))).setIfInBounds ((4 * k2) + 2) (.int .u8 (((rg (z3 z total).hs k2 : Int) / 256) % 256)))) (e := 36) kr (by first | (rw [dsz _ hk2]; omega) | (simp only [Array.size_setIfInBounds,dsz _ hk2]; omega))) ?_
       rintro ⟨⟩ -
       refine CfgL.done rfl ?_
       refine Cg (Γ' := [(43,[],.int .i64 (k2 : Int)),(42,[],.agg (wv (z3 z total).hs)),(6,[],pT d),(2,[],pT r)]) ?_
       refine Rg [2,6,42,43] [] (fun _ => [(i6 ((k2 : Int) + 1))]) ⟨om,trivial⟩ ?_
       refine Cfg.setO (congrArg (fun (xq : Array Value) => ([(d,.cells xq 36 (0,0)),(tl,.cells (bv (tlr (lb total) 8)) 136 (0,0)),(r,.cells (bv (List.replicate 32 0)) 36 (0,0)),(b,.cells (stC (z3 z total).hs (z3 z total).bl (z3 z total).held ((tj total (padN z) + (tls (lb total)).size) % 18446744073709551616)) 135 (0,0))] : LO)) (show _ = (bv (dgr (z3 z total).hs (k2 + 1))) from dgr_step _ om rfl rfl rfl rfl)) ?_
       refine Cfg.again rfl (k2 + 1) (by show k2 + 1 ≤ 8; omega) (by show 8 - (k2 + 1) < 8 - k2; omega) (Conv.mk kr) (.cons_cons _ (.cons_cons _ (.cons_cons _ (.cons_cons _ .slnil))))
      ·have c3 := (dF c3r)
       refine Cfg.begL rfl ?_
       refine Lp 1 [(dS (.agg (bv (dgr (z3 z total).hs k2))))] (some [2,74]) (fun S => [(∀ w1,S w1 → (loadVar 36 ⟨d,0,none⟩).run Tryz.prog w1 = .ok (.agg (bv (dgr (z3 z total).hs k2))) w1)]) ⟨(fun w1 h => h.oload 0 rfl Tryz.underlying36 rfl (n := 32) kr (dsz _ hk2)),trivial⟩ ?_
       refine Le (Eff.storeN (b := r) (off := 0) (vs := (bv (dgr (z3 z total).hs k2))) (n := 32) rfl kr kr kr (dsz _ hk2) (all_bv _) 2 (cs := (bv (List.replicate 32 0))) (e := 36) kr (by rw [zsz]; omega)) ?_
       rintro ⟨⟩ -
       refine CfgL.setO (congrArg (fun (xq : Array Value) => ([(d,.cells (bv (dgr (z3 z total).hs k2)) 36 (0,0)),(tl,.cells (bv (tlr (lb total) 8)) 136 (0,0)),(r,.cells xq 36 (0,0)),(b,.cells (stC (z3 z total).hs (z3 z total).bl (z3 z total).held ((tj total (padN z) + (tls (lb total)).size) % 18446744073709551616)) 135 (0,0))] : LO)) (show _ = (bv (dgr (z3 z total).hs k2)) from spl_all ((dsz _ hk2).trans zsz.symm))) ?_
       refine CfgL.done rfl ?_
       refine Cg (Γ' := [(2,[],pT r)]) ?_
       refine Cfg.ret rfl (rs := [.cell 2 36]) rfl [.agg (bv (dgr (z3 z total).hs k2))] ⟨⟨_,by kernel_rfl,(fun w1 h => h.oload 2 rfl Tryz.underlying36 rfl (n := 32) kr (dsz _ hk2))⟩,trivial⟩ (fun w1 hp => ?_)
       obtain rfl : k2 = 8 := by omega
       exact ⟨rfl,hp.ext⟩
end Go.Proofs.YtbeegepcdglcaaaGreatDoor
namespace Go.Proofs.YtbeegepcdglcaaaGreatDoor
open K
set_option linter.unusedVariables false
set_option maxRecDepth 100000 in
theorem shaBegin (w : World) :
  Calls Tryz.prog 52 #[] w fun e w' => ∃ b : Nat,True ∧ e = .returned (.pointer (some ⟨b,0,none⟩)) ∧ w.heap.size ≤ b ∧ w'.heap[b]? = some (.cells (stC H8 (List.replicate 64 0) 0 0) 135 (0,0)) ∧ Ext [] w w' := by
 refine enter (vs := []) [] [] [] Tryz.func52 rfl kr (HP.start w) ?_
 refine Rg [] [] n0 trivial ?_
 refine Cfg.begL rfl ?_
 refine Lp 2 [(dS (.agg (wv H8))),(dS (.agg (stC H8 (List.replicate 64 0) 0 0)))] (some [2]) (fun S => [(∀ w1,S w1 → (Instr.build 132 #[(0,.int .u32 1779033703),(1,.int .u32 3144134277),(2,.int .u32 1013904242),(3,.int .u32 2773480762),(4,.int .u32 1359893119),(5,.int .u32 2600822924),(6,.int .u32 528734635),(7,.int .u32 1541459225)]).run Tryz.prog w1 = .ok (.agg (wv H8)) w1),(∀ w1,S w1 → (Instr.build 135 #[(0,.agg (wv H8))]).run Tryz.prog w1 = .ok (.agg (stC H8 (List.replicate 64 0) 0 0)) w1)]) ⟨(fun _ _ => kr),(fun _ _ => kr),trivial⟩ ?_
 refine Le (Eff.box (v := .agg (stC H8 (List.replicate 64 0) 0 0)) rfl kr) ?_
 rintro b1 ⟨hb1,nb1⟩
 refine Lp 1 [] (some [0]) n0 trivial ?_
 refine CfgL.done rfl ?_
 refine Cfg.ret rfl (rs := [.tmp 0]) rfl [pT b1] ⟨kr,trivial⟩ (fun w1 hp => ?_)
 exact ⟨b1,trivial,rfl,hb1,hp.own (b1,_) mH,hp.ext⟩
set_option maxRecDepth 100000 in
theorem shaSum (la : Option Addr) (cap : Nat) (ss : List ByteArray) (Rl : List (Nat × Obj)) {kt : Array Value} {t0 : TypeId} {fr0 : Nat × Nat} (w : World) (hI : InS Rl la ss.length (fun j => .string (ssat ss j))) (hn : ss.length ≤ maxLen) (hR : Has w ((0,.cells kt t0 fr0) :: Rl)) (hK : KT kt := by assumption) :
  Calls Tryz.prog 23 #[.slice la ss.length cap] w fun e w' => e = .returned (.agg (bv (shaD (scat ss)))) ∧ Ext [] w w' := by
 unfold maxLen at hn
 have h0 : 0 < w.heap.size := lt_of_get (hR _ mH)
 refine enter (vs := [.slice la ss.length cap]) [] ((0,.cells kt t0 fr0) :: Rl) [] Tryz.func23 rfl kr (HP.ofHas hR) ?_
 refine Cfg.begL rfl ?_
 refine Le (Eff.alloc (z := (.agg (bv (List.replicate 32 0)))) rfl kr) ?_
 rintro r ⟨hr,nr⟩
 refine CfgL.done rfl ?_
 refine Cfg.begL rfl ?_
 refine Le (Eff.callN (vs := []) (fun b : Nat => pT b) (fun b => b) (fun _ => .cells (stC H8 (List.replicate 64 0) 0 0) 135 (0,0)) (fun _ => True) rfl Tryz.func52 rfl rfl kr (fun w1 _ => shaBegin w1)) ?_
 rintro b ⟨-,hb,nb⟩
 have hne : b ≠ 0 := by have : w.heap.size ≤ b := hb; omega
 refine Lp 1 [] (some [0,2,3]) n0 trivial ?_
 refine CfgL.done rfl ?_
 refine Rg [2,3,7,8,9] [] n0 trivial ?_
 refine Cfg.loop rfl (ι := Nat) (fun (i : Nat) => [(9,[],.int .i64 (i : Int)),(8,[],.int .i64 (ss.length : Int)),(7,[],.slice la ss.length cap),(3,[],pT b),(2,[],pT r)]) (fun (i : Nat) => [(b,.cells (stC (sz ss i).hs (sz ss i).bl (sz ss i).held (tt ss i)) 135 (0,0)),(r,.cells (bv (List.replicate 32 0)) 36 (0,0))]) (fun (i : Nat) => (i ≤ ss.length)) (fun (i : Nat) => ss.length - i) 0 ?_ (Conv.mk kr) (.cons_cons _ (.cons_cons _ .slnil)) ?_
 ·exact Nat.zero_le _
 ·rintro i hi
  refine Rg [2,3,7,8,9,10] [] n0 trivial ?_
  refine Cfg.cond rfl (b := (decide ((i : Int) < (ss.length : Int)))) kr (fun c1r => ?_) (fun c1r => ?_)
  ·have c1 := (dT c1r)
   obtain ⟨sb,off,cs,te,fre,rfl,hmem,hcs⟩ := hI om
   refine Conv.cfg (Γ' := [(10,[],.bool (decide ((i : Int) < (ss.length : Int)))),(9,[],.int .i64 (i : Int)),(8,[],.int .i64 (ss.length : Int)),(7,[],.slice (some ⟨sb,off,none⟩) ss.length cap),(3,[],pT b),(2,[],pT r)]) (Conv.mk kr) ?_
   refine Rg [2,3,5,7,8,9] [dZ,(dS (.string (ssat ss i)))] (fun S => [(0 ≤ (i : Int) ∧ (i : Int) < (ss.length : Int)),(cE S sb (addO off i) (.string (ssat ss i)))]) ⟨om,(fun w1 h => by rw [addO_eq]; exact (cell_cells (h.ro _ (List.mem_cons_of_mem _ hmem))).trans (hcs i om)),trivial⟩ ?_
   refine Cfg.begL rfl ?_
   refine Lp 2 [] (some [2,3,7,8,9,13,14]) n0 trivial ?_
   refine Le (Eff.callM (vs := [pT b,.string (ssat ss i)]) (.tuple #[]) 0 (b := b) (ob := .cells (stC (sz ss i).hs (sz ss i).bl (sz ss i).held (tt ss i)) 135 (0,0)) (.cells (stC (feed (sz ss i) (ssat ss i).data.toList).hs (feed (sz ss i) (ssat ss i).data.toList).bl (feed (sz ss i) (ssat ss i).data.toList).held ((tt ss i + (ssat ss i).size) % 18446744073709551616)) 135 (0,0)) rfl Tryz.func53 rfl rfl kr kr (fun w1 h => shaWrite b (sz ss i) (tt ss i) (ssat ss i) w1 (sz_ok ss i) (h.hasR (fun e he => by rw [List.mem_singleton.1 he]; exact mH)) (h.own _ (mG 0 rfl)) hne)) ?_
   rintro ⟨⟩ -
   refine CfgL.done rfl ?_
   refine Cg (Γ' := [(9,[],.int .i64 (i : Int)),(8,[],.int .i64 (ss.length : Int)),(7,[],.slice (some ⟨sb,off,none⟩) ss.length cap),(3,[],pT b),(2,[],pT r)]) ?_
   refine Rg [2,3,7,8,9] [] (fun _ => [(i6 ((i : Int) + 1))]) ⟨om,trivial⟩ ?_
   refine Cfg.setO (congrArg (fun (xq : Array Value) => ([(b,.cells xq 135 (0,0)),(r,.cells (bv (List.replicate 32 0)) 36 (0,0))] : LO)) (show _ = (stC (sz ss (i + 1)).hs (sz ss (i + 1)).bl (sz ss (i + 1)).held (tt ss (i + 1))) from by rw [sz_succ om,tt_succ om])) ?_
   refine Cfg.again rfl (i + 1) (by show i + 1 ≤ ss.length; omega) (by show ss.length - (i + 1) < ss.length - i; omega) (Conv.mk kr) (.cons_cons _ (.cons_cons _ .slnil))
  ·have c1 := (dF c1r)
   obtain rfl : i = ss.length := by omega
   refine Conv.cfg (Γ' := [(8,[],.int .i64 (ss.length : Int)),(7,[],.slice la ss.length cap),(3,[],pT b),(2,[],pT r)]) (Conv.mk kr) ?_
   refine Cfg.begL rfl ?_
   refine Lp 1 [] (some [2,17]) n0 trivial ?_
   refine Le (Eff.callD (vs := [pT b]) (.agg (bv (shaD (scat ss)))) 0 (b := b) (ob := .cells (stC (sz ss ss.length).hs (sz ss ss.length).bl (sz ss ss.length).held (tt ss ss.length)) 135 (0,0)) rfl Tryz.func54 rfl rfl kr kr (fun w1 h => by have := shaEndC b (sz ss ss.length) (tt ss ss.length) w1 (sz_ok ss _) (h.hasR (fun e he => by rw [List.mem_singleton.1 he]; exact mH)) (h.own _ (mG 0 rfl)) hne; rw [sz_all] at this; exact this)) ?_
   rintro ⟨⟩ -
   refine Le (Eff.storeN (b := r) (off := 0) (vs := (bv (shaD (scat ss)))) (n := 32) rfl kr kr kr (dz _) (all_bv _) 0 (cs := (bv (List.replicate 32 0))) (e := 36) kr (by rw [zsz]; omega)) ?_
   rintro ⟨⟩ -
   refine CfgL.setO (congrArg (fun (xq : Array Value) => ([(r,.cells xq 36 (0,0))] : LO)) (show _ = (bv (shaD (scat ss))) from spl_all ((dz _).trans zsz.symm))) ?_
   refine CfgL.done rfl ?_
   refine Cg (Γ' := [(2,[],pT r)]) ?_
   refine Cfg.ret rfl (rs := [.cell 2 36]) rfl [.agg (bv (shaD (scat ss)))] ⟨⟨_,by kernel_rfl,(fun w1 h => h.oload 0 rfl Tryz.underlying36 rfl (n := 32) kr (dz _))⟩,trivial⟩ (fun w1 hp => ?_)
   exact ⟨rfl,hp.ext⟩
end Go.Proofs.YtbeegepcdglcaaaGreatDoor
namespace Go.Proofs.YtbeegepcdglcaaaGreatDoor
open K
set_option linter.unusedVariables false
def un8 (L : List Nat) : List UInt8 := L.map UInt8.ofNat
def mixes : Nat → List UInt8 → List Nat → List Nat
 | 0,_,hs => hs
 | k + 1,l,hs => mixes k (l.drop 64) (mixF hs (l.take 64))
theorem lay_all : ∀ (l A B : List UInt8),B.length = l.length → lay (A ++ B) A.length l = A ++ l
 | [],A,B,h => by rw [List.eq_nil_of_length_eq_zero (l := B) (by simpa using h)]; rfl
 | x :: l,A,B,h => by
  match B,h with
  | y :: B,h =>
   have e : (A ++ y :: B).set A.length x = (A ++ [x]) ++ B := by simp
   have := lay_all l (A ++ [x]) B (by simpa using h)
   rw [lay,e]
   rw [List.length_append] at this
   simpa using this
theorem feed_mixes : ∀ (k : Nat) (l : List UInt8) (hs : List Nat) (bl : List UInt8),l.length = 64 * k → bl.length = 64 → (feed ⟨hs,bl,0⟩ l).hs = mixes k l hs
 | 0,l,hs,bl,h,_ => by rw [List.eq_nil_of_length_eq_zero (l := l) om]; rfl
 | k + 1,l,hs,bl,h,hb => by
  have h1 : (l.take 64).length = 64 := by rw [List.length_take]; omega
  have hf := feed_full (l.take 64) hs bl 0 (by decide) om
  have hla : lay bl 0 (l.take 64) = l.take 64 := by
   have := lay_all (l.take 64) [] bl om
   simpa using this
  rw [hla] at hf
  have := feed_app ⟨hs,bl,0⟩ (l.take 64) (l.drop 64)
  rw [List.take_append_drop] at this
  rw [this,hf,feed_mixes k (l.drop 64) _ _ (by rw [List.length_drop]; omega) h1,mixes]
def tailN (N : Nat) : List Nat := 128 :: (List.replicate ((119 - N % 64) % 64) 0 ++ (List.range 8).map fun i => lb (N % 18446744073709551616) / 2 ^ (56 - 8 * i) % 256)
theorem u8_ofmod (m : Nat) : UInt8.ofNat (m % 256) = UInt8.ofNat m := u8mod m
theorem un8_tail (N : Nat) : un8 (tailN N) = 128 :: (List.replicate ((119 - N % 64) % 64) 0 ++ tlr (lb (N % 18446744073709551616)) 8) := by
 unfold un8 tailN tlr tb
 rw [List.map_cons,List.map_append,List.map_replicate,List.map_map]
 congr 2
 simp only [Nat.sub_self,List.replicate_zero,List.append_nil]
 apply List.map_congr_left
 intro i _
 exact u8_ofmod _
theorem shaD_mixes (l : List UInt8) {k : Nat} (hk : l.length + (tailN l.length).length = 64 * k) : shaD l = dgr (mixes k (l ++ un8 (tailN l.length)) H8) 8 := by
 have hh : (feed sh0 l).held = l.length % 64 := by
  have := feed_held l sh0_ok
  rw [this]
  show (0 + l.length) % 64 = _
  rw [Nat.zero_add]
 unfold shaD shaEnd z3 pz padN
 rw [← feed_app,← feed_app,hh]
 have e : l ++ ((128 :: List.replicate ((119 - l.length % 64) % 64) 0) ++ tlr (lb (l.length % 18446744073709551616)) 8) = l ++ un8 (tailN l.length) := by
  rw [un8_tail,List.cons_append]
 rw [e]
 congr 1
 exact feed_mixes k _ H8 _ (by rw [List.length_append]; unfold un8; rw [List.length_map]; exact hk) (by rw [List.length_replicate])
theorem mixes_succ : ∀ (k : Nat) (l : List UInt8) (hs : List Nat),mixes (k + 1) l hs = mixF (mixes k l hs) ((l.drop (64 * k)).take 64)
 | 0,l,hs => by rw [mixes,mixes,mixes,Nat.mul_zero,List.drop_zero]
 | k + 1,l,hs => by
  have ih := mixes_succ k (l.drop 64) (mixF hs (l.take 64))
  rw [mixes,ih,List.drop_drop,mixes,show 64 + 64 * k = 64 * (k + 1) by omega]
theorem mixes_len : ∀ (k : Nat) (l : List UInt8) {hs : List Nat},hs.length = 8 → (mixes k l hs).length = 8
 | 0,_,_,h => h
 | k + 1,l,hs,h => mixes_len k _ (mixF_len _ h)
theorem mixes_lt : ∀ (k : Nat) (l : List UInt8) {hs : List Nat},(∀ i,rg hs i < 2 ^ 32) → ∀ i,rg (mixes k l hs) i < 2 ^ 32
 | 0,_,_,h => h
 | k + 1,l,hs,h => mixes_lt k _ (mixF_lt _ h)
end Go.Proofs.YtbeegepcdglcaaaGreatDoor
namespace Go.Proofs.YtbeegepcdglcaaaGreatDoor
namespace I
inductive AV where
 | bad
 | undef
 | bool (b : Bool)
 | int (k : IntKind) (n : Int)
 | str (n x : Nat)
 | nilp
 | ptr (b off : Nat)
 | nils
 | sl (b off len lb sz : Nat)
 | nilm
 | map (b : Nat)
 | nilf
 | fn (f : Nat) (first caps : AV)
 | nili
 | ifc (t : Nat) (v : AV)
 | agg (n : Nat) (t : AV)
 | tup (l : AV)
 | lnil
 | lcons (h t : AV)
 | node (l r : AV)
 | uni (v : AV)
 | byt (x : Nat)
 | dead
 | cells (ty n : Nat) (ro : Bool) (t : AV)
 | mp (l : AV)
 | yld (b : Nat)
 | lp (n : Nat) (ps : List Nat) (assign body : Code) (tm : AV) (st pend db : Nat)
 | df
 | mth (name : String) (x : AV)
 deriving Inhabited
def cget : Nat → AV → Nat → AV
 | 0,t,_ => t
 | d + 1,.node l r,i => bif Nat.blt i (2 ^ d) then cget d l i else cget d r (i - 2 ^ d)
 | _ + 1,.uni v,_ => v
 | d + 1,.byt x,i => .int .u8 (.ofNat (x / 256 ^ (2 ^ (d + 1) - 1 - i) % 256))
 | _ + 1,_,_ => .undef
def byt : Nat → Nat → AV
 | 0,x => .int .u8 (.ofNat (x % 256))
 | _ + 1,0 => .byt 0
 | _ + 1,x + 1 => .byt (Nat.succ x)
def unid : Nat → AV → AV
 | 0,v => v
 | _ + 1,v => .uni v
def repn (n a : Nat) : Nat := a * ((256 ^ n - 1) / 255)
def bt : Nat → AV → Option Nat
 | 0,.int .u8 (.ofNat a) => bif Nat.ble a 255 then some a else none
 | _ + 1,.byt x => some x
 | d + 1,.uni (.int .u8 (.ofNat a)) => bif Nat.ble a 255 then some (repn (2 ^ (d + 1)) a) else none
 | _,_ => none
def nd (d : Nat) (l r : AV) : AV :=
 bif Nat.ble d 11 then
  match bt d l with
  | some a => match bt d r with
   | some b => byt (d + 1) (a * 256 ^ 2 ^ d + b % 256 ^ 2 ^ d)
   | none => .node l r
  | none => .node l r
 else .node l r
def cby : Nat → AV → Nat → Nat → Option Nat
 | 0,.int .u8 (.ofNat a),_,_ => bif Nat.ble a 255 then some a else none
 | d + 1,.byt x,i,n => some (x / 256 ^ (2 ^ (d + 1) - i - n) % 256 ^ n)
 | _ + 1,.uni (.int .u8 (.ofNat a)),_,n => bif Nat.ble a 255 then some (repn n a) else none
 | d + 1,.node l r,i,n => bif Nat.ble (i + n) (2 ^ d) then cby d l i n else bif Nat.ble (2 ^ d) i then cby d r (i - 2 ^ d) n else
  match cby d l i (2 ^ d - i) with
  | some a => match cby d r 0 (i + n - 2 ^ d) with
   | some b => some (a * 256 ^ (i + n - 2 ^ d) + b)
   | none => none
  | none => none
 | _,_,_,_ => none
def lg (n : Nat) : Nat := bif Nat.ble n 1 then 0 else Nat.log2 (n - 1) + 1
end I
end Go.Proofs.YtbeegepcdglcaaaGreatDoor
namespace Go.Proofs.YtbeegepcdglcaaaGreatDoor
namespace I
def strOf : List UInt8 → Nat → Nat
 | [],a => a
 | b :: l,a => strOf l (a * 256 + b.toNat)
def val (l : List UInt8) : Nat := strOf l 0
theorem strOf_eq : ∀ (l : List UInt8) (a : Nat),strOf l a = a * 256 ^ l.length + val l
 | [],a => by simp [strOf,val]
 | b :: l,a => by
  unfold strOf val
  rw [strOf,strOf_eq l,strOf_eq l (0 * 256 + b.toNat),List.length_cons,Nat.pow_succ,Nat.add_mul]
  rw [Nat.zero_mul,Nat.zero_add,show a * (256 ^ l.length * 256) = a * 256 * 256 ^ l.length by rw [Nat.mul_comm (256 ^ l.length),Nat.mul_assoc]]
  omega
theorem val_cons (b : UInt8) (l : List UInt8) : val (b :: l) = b.toNat * 256 ^ l.length + val l := by
 rw [val,strOf,strOf_eq]; simp
theorem val_lt : ∀ (l : List UInt8),val l < 256 ^ l.length
 | [] => by simp [val,strOf]
 | b :: l => by
  have h1 := val_lt l
  have h2 : b.toNat < 256 := b.toNat_lt
  rw [val_cons,List.length_cons,Nat.pow_succ]
  have h3 : (b.toNat + 1) * 256 ^ l.length ≤ 256 * 256 ^ l.length := Nat.mul_le_mul_right _ h2
  rw [Nat.add_mul,Nat.one_mul] at h3
  rw [Nat.mul_comm (256 ^ l.length)]
  omega
theorem val_inj : ∀ {a b : List UInt8},a.length = b.length → val a = val b → a = b
 | [],[],_,_ => rfl
 | [],_ :: _,h,_ => by simp at h
 | _ :: _,[],h,_ => by simp at h
 | x :: a,y :: b,h,hv => by
  have hl : a.length = b.length := by simpa using h
  rw [val_cons,val_cons,hl] at hv
  have ha := val_lt a
  have hb := val_lt b
  rw [hl] at ha
  have hp : 0 < 256 ^ b.length := Nat.pow_pos (by decide)
  have e1 : (x.toNat * 256 ^ b.length + val a) / 256 ^ b.length = x.toNat := by
   rw [Nat.mul_comm,Nat.mul_add_div hp,Nat.div_eq_of_lt ha,Nat.add_zero]
  have e2 : (y.toNat * 256 ^ b.length + val b) / 256 ^ b.length = y.toNat := by
   rw [Nat.mul_comm,Nat.mul_add_div hp,Nat.div_eq_of_lt hb,Nat.add_zero]
  have hxy : x.toNat = y.toNat := by rw [← e1,hv,e2]
  have : x = y := UInt8.toNat_inj.1 hxy
  subst this
  have : a = b := val_inj hl om
  rw [this]
def sbyte (n x i : Nat) : Nat := x / 256 ^ (n - 1 - i) % 256
def strLess (n x m y : Nat) : Bool :=
 bif Nat.ble n m then Nat.ble x (y / 256 ^ (m - n)) && (Nat.blt x (y / 256 ^ (m - n)) || Nat.blt n m)
 else Nat.blt (x / 256 ^ (n - m)) y
end I
end Go.Proofs.YtbeegepcdglcaaaGreatDoor
namespace Go.Proofs.YtbeegepcdglcaaaGreatDoor
namespace I
open K (one)
set_option linter.unusedVariables false
abbrev Pl := Nat × Nat × Nat
abbrev Sg := Nat → Option Pl
def toList : AV → List AV
 | .lcons a l => a :: toList l
 | _ => []
def HD : Nat := 18
structure Fr where
 wr : Nat → Prop
 acc : Nat → Prop
section
variable {σ σ' : Sg} {h h' : AV} {nx : Nat} {w0 w w' : World} {B : Fr} {b : Nat}
def ext (σ : Sg) (nx : Nat) (p : Pl) : Sg := fun b => if b = nx then some p else σ b
end
end I
end Go.Proofs.YtbeegepcdglcaaaGreatDoor
namespace Go.Proofs.YtbeegepcdglcaaaGreatDoor
namespace I
open K (one aggB run_underlying' run_sizeOf' add_none)
set_option linter.unusedVariables false
def ilt : Int → Int → Bool
 | .ofNat a,.ofNat b => Nat.blt a b
 | .ofNat _,.negSucc _ => false
 | .negSucc _,.ofNat _ => true
 | .negSucc a,.negSucc b => Nat.blt b a
def ieq : Int → Int → Bool
 | .ofNat a,.ofNat b => Nat.beq a b
 | .negSucc a,.negSucc b => Nat.beq a b
 | _,_ => false
def maxN : IntKind → Nat
 | .i8 => 127 | .i16 => 32767 | .i32 => 2147483647 | .i64 => 9223372036854775807 | .u8 => 255 | .u16 => 65535 | .u32 => 4294967295 | .u64 => 18446744073709551615
def wrapF (k : IntKind) : Int → Int
 | .ofNat m => bif Nat.ble m (maxN k) then .ofNat m else k.wrap (.ofNat m)
 | .negSucc m => bif K.sg k && Nat.ble m (maxN k) then .negSucc m else k.wrap (.negSucc m)
def inr (k : IntKind) : Int → Option Nat
 | .ofNat m => bif Nat.ble m (maxN k) then some m else none
 | _ => none
def binI (op : BinOp) (k : IntKind) (a b : Int) : Option AV :=
 match op with
 | .add => some (.int k (wrapF k (a + b)))
 | .sub => some (.int k (wrapF k (a - b)))
 | .mul => some (.int k (wrapF k (a * b)))
 | .quo => match inr k a,inr k b with
  | some x,some y => bif Nat.beq y 0 then none else some (.int k (.ofNat (x / y)))
  | _,_ => none
 | .rem => match inr k b with
  | some y => bif Nat.beq y 0 then none else some (.int k (a.tmod (.ofNat y)))
  | none => none
 | .and => match inr k a,inr k b with
  | some x,some y => some (.int k (.ofNat (Nat.land x y)))
  | _,_ => none
 | .or => match inr k a,inr k b with
  | some x,some y => some (.int k (.ofNat (Nat.lor x y)))
  | _,_ => none
 | .xor => match inr k a,inr k b with
  | some x,some y => some (.int k (.ofNat (Nat.xor x y)))
  | _,_ => none
 | .eql => some (.bool (ieq a b))
 | .neq => some (.bool (!ieq a b))
 | .lss => some (.bool (ilt a b))
 | .leq => some (.bool (!ilt b a))
 | .gtr => some (.bool (ilt b a))
 | .geq => some (.bool (!ilt a b))
 | _ => none
section
variable {P : Program} {σ : Sg} {w : World}
def binS (op : BinOp) (n x m y : Nat) : Option AV :=
 match op with
 | .add => bif Nat.ble (n + m) 9223372036854775807 then some (.str (n + m) (x * 256 ^ m + y)) else none
 | .eql => some (.bool (Nat.beq n m && Nat.beq x y))
 | .neq => some (.bool (!(Nat.beq n m && Nat.beq x y)))
 | .lss => some (.bool (strLess n x m y))
 | .geq => some (.bool (!strLess n x m y))
 | .leq => some (.bool (strLess n x m y || (Nat.beq n m && Nat.beq x y)))
 | .gtr => some (.bool (!(strLess n x m y || (Nat.beq n m && Nat.beq x y))))
 | _ => none
end
end I
end Go.Proofs.YtbeegepcdglcaaaGreatDoor
namespace Go.Proofs.YtbeegepcdglcaaaGreatDoor
namespace I
open K (one aggB run_underlying' run_sizeOf' add_none run_v)
set_option linter.unusedVariables false
section
variable {P : Program} {σ : Sg} {w : World}
def bytesO (d : Nat) (t : AV) : Nat → Nat → Nat → Option Nat
 | 0,_,a => some a
 | n + 1,i,a => match cget d t i with
  | .int .u8 (.ofNat x) => bif Nat.ble x 255 then bytesO d t n (i + 1) (a * 256 + x) else none
  | _ => none
def bytesOf (d : Nat) (t : AV) (n i a : Nat) : Option Nat :=
 bif Nat.ble 1 n && Nat.ble (i + n) (2 ^ d) then
  match cby d t i n with
  | some x => some (a * 256 ^ n + x)
  | none => none
 else bytesO d t n i a
end
end I
end Go.Proofs.YtbeegepcdglcaaaGreatDoor
namespace Go.Proofs.YtbeegepcdglcaaaGreatDoor
namespace I
open K (one aggB run_underlying' run_sizeOf' add_none run_v cell_cells)
set_option linter.unusedVariables false
section
variable {P : Program} {σ : Sg} {w : World}
def code (R : Nat) : List Nat → Nat → Nat
 | [],a => a
 | z :: l,a => code R l (a * R + z)
end
end I
end Go.Proofs.YtbeegepcdglcaaaGreatDoor
namespace Go.Proofs.YtbeegepcdglcaaaGreatDoor
namespace I
open K (one aggB run_underlying' run_sizeOf' add_none run_v cell_cells)
set_option linter.unusedVariables false
inductive NV where
 | ptr
 | sl (len lb sz : Nat)
 | map
def NV.at : NV → Nat → AV
 | .ptr,b => .ptr b 0
 | .sl len lb sz,b => .sl b 0 len lb sz
 | .map,b => .map b
section
variable {P : Program} {σ : Sg} {h : AV} {nx : Nat} {w0 w : World} {B : Fr}
end
end I
end Go.Proofs.YtbeegepcdglcaaaGreatDoor
namespace Go.Proofs.YtbeegepcdglcaaaGreatDoor
namespace I
open K (one aggB run_underlying' run_sizeOf' add_none run_v cell_cells)
set_option linter.unusedVariables false
def grow : Nat → Nat → AV → AV
 | 0,_,t => t
 | k + 1,d,t => grow k (d + 1) (.node t (unid d .undef))
section
variable {P : Program} {σ : Sg} {h : AV} {nx : Nat} {w0 w : World} {B : Fr}
end
end I
end Go.Proofs.YtbeegepcdglcaaaGreatDoor
namespace Go.Proofs.YtbeegepcdglcaaaGreatDoor
namespace I
open K (one aggB run_underlying' run_sizeOf' add_none run_v cell_cells)
set_option linter.unusedVariables false
def byteRow (h : AV) : AV → Option (Nat × Nat)
 | .sl b off len lb _ => match cget HD h b with
  | .cells _ n _ t => bif Nat.ble (off + len) n && !(Nat.beq lb 0) then
    match bytesOf (lg n) t len off 0 with
    | some x => some (len,x)
    | none => none
   else none
  | _ => none
 | _ => none
section
variable {P : Program} {σ : Sg} {h : AV} {nx : Nat} {w0 w : World} {B : Fr}
theorem cmp_find : ∀ (l l' : List UInt8),l.length = l'.length → (match (List.range l.length).find? (fun i => l.getD i 0 != l'.getD i 0) with | some i => if l.getD i 0 < l'.getD i 0 then (-1 : Int) else 1 | none => 0) = if val l < val l' then -1 else if val l = val l' then 0 else 1
 | [],[],_ => by simp
 | x :: l,y :: l',h => by
  have hl : l.length = l'.length := by simpa using h
  have ih := cmp_find l l' hl
  have e1 : val (x :: l) = x.toNat * 256 ^ l.length + val l := by
   show strOf (x :: l) 0 = _
   simp only [strOf]
   rw [strOf_eq]; simp
  have e2 : val (y :: l') = y.toNat * 256 ^ l.length + val l' := by
   show strOf (y :: l') 0 = _
   simp only [strOf]
   rw [strOf_eq,hl]; simp
  have b1 := val_lt l
  have b2 := val_lt l'
  rw [← hl] at b2
  rw [List.length_cons,List.range_succ_eq_map,List.find?_cons]
  simp only [List.getD_cons_zero]
  by_cases hxy : x = y
  ·subst hxy
   simp only [bne_self_eq_false,List.find?_map]
   have e3 : ((fun i => (x :: l).getD i 0 != (x :: l').getD i 0) ∘ Nat.succ) = fun i => l.getD i 0 != l'.getD i 0 := by
    funext i
    simp
   rw [e3]
   rw [e1,e2]
   generalize hf : (List.range l.length).find? (fun i => l.getD i 0 != l'.getD i 0) = r at ih
   have e4 : (x.toNat * 256 ^ l.length + val l < x.toNat * 256 ^ l.length + val l') = (val l < val l') := by simp
   have e5 : (x.toNat * 256 ^ l.length + val l = x.toNat * 256 ^ l.length + val l') = (val l = val l') := by simp
   simp only [e4,e5]
   rw [← ih]
   cases r with
   | none => simp
   | some i => simp
  ·have hb : (x != y) = true := by simpa using hxy
   simp only [hb,List.getD_cons_zero]
   rw [e1,e2]
   have hn : x.toNat ≠ y.toNat := fun e => hxy (UInt8.toNat_inj.1 e)
   by_cases hlt : x < y
   ·have : x.toNat < y.toNat := hlt
    have h3 : (x.toNat + 1) * 256 ^ l.length ≤ y.toNat * 256 ^ l.length := Nat.mul_le_mul_right _ this
    rw [Nat.add_mul] at h3
    rw [if_pos hlt,if_pos om]
   ·have : ¬ x.toNat < y.toNat := hlt
    have h3 : (y.toNat + 1) * 256 ^ l.length ≤ x.toNat * 256 ^ l.length := Nat.mul_le_mul_right _ om
    rw [Nat.add_mul] at h3
    rw [if_neg hlt,if_neg om,if_neg om]
theorem cmp_val (l l' : List UInt8) (h : l.length = l'.length) : Extern.BytealgCompare.cmp ⟨l.toArray⟩ ⟨l'.toArray⟩ = if val l < val l' then -1 else if val l = val l' then 0 else 1 := by
 rw [← cmp_find l l' h]
 unfold Extern.BytealgCompare.cmp
 have e1 : (⟨l.toArray⟩ : ByteArray).size = l.length := by simp [ByteArray.size]
 have e2 : (⟨l'.toArray⟩ : ByteArray).size = l.length := by simp [ByteArray.size,h]
 simp only [K.at_row,e1,e2,Nat.min_self,Nat.lt_irrefl,if_false,gt_iff_lt]
 cases List.find? (fun i => l.getD i 0 != l'.getD i 0) (List.range l.length) <;> rfl
end
end I
end Go.Proofs.YtbeegepcdglcaaaGreatDoor
namespace Go.Proofs.YtbeegepcdglcaaaGreatDoor
open K
set_option linter.unusedVariables false
structure En where
 id : List UInt8
 t : ByteArray
 b : List UInt8
 d : ByteArray
 p : Nat
def dzz : List UInt8 := List.replicate 32 0
theorem dzz_len : dzz.length = 32 := List.length_replicate
def ez : En := ⟨dzz,ByteArray.empty,dzz,ByteArray.empty,0⟩
def sdg (s : ByteArray) : List UInt8 := shaD s.data.toList
theorem sdg_len (s : ByteArray) : (sdg s).length = 32 := shaD_len _
def mk0 (s : ByteArray) : En := ⟨sdg s,s,dzz,ByteArray.empty,0⟩
def ids (l : List En) : List (List UInt8) := l.map En.id
def txs (l : List En) : List ByteArray := l.map En.t
theorem getD_of {α : Type} {l : List α} {i : Nat} (z : α) (h : i < l.length) : l.getD i z = l[i] := by rw [List.getD_eq_getElem?_getD,List.getElem?_eq_getElem h]; rfl
theorem snoc_ind {α : Type} {p : List α → Prop} (h0 : p []) (h1 : ∀ l x,p l → p (l ++ [x])) (l : List α) : p l := by
 have h : ∀ m : List α,p m.reverse := by
  intro m
  induction m with
  | nil => exact h0
  | cons x m ih => rw [List.reverse_cons]; exact h1 _ _ ih
 have := h l.reverse
 rwa [List.reverse_reverse] at this
def uqs (acc : List En) (s : ByteArray) : List En := if sdg s ∈ ids acc then acc else acc ++ [mk0 s]
def uq (l : List ByteArray) : List En := l.foldl uqs []
theorem uq_take {l : List ByteArray} {i : Nat} (h : i < l.length) : uq (l.take (i + 1)) = uqs (uq (l.take i)) (l.getD i ByteArray.empty) := by
 unfold uq
 rw [List.take_succ_eq_append_getElem h,List.foldl_append,getD_of _ h]; rfl
theorem uq_all : ∀ (l : List ByteArray) (acc : List En),(ids acc).Nodup → (∀ e ∈ acc,e = mk0 e.t) → (ids (l.foldl uqs acc)).Nodup ∧ (∀ e ∈ l.foldl uqs acc,e = mk0 e.t) ∧ (∀ e ∈ l.foldl uqs acc,e ∈ acc ∨ e.t ∈ l) ∧ (l.foldl uqs acc).length ≤ acc.length + l.length
 | [],acc,h1,h2 => ⟨h1,h2,fun e he => .inl he,Nat.le_refl _⟩
 | s :: l,acc,h1,h2 => by
  have h3 : (ids (uqs acc s)).Nodup ∧ (∀ e ∈ uqs acc s,e = mk0 e.t) ∧ (∀ e ∈ uqs acc s,e ∈ acc ∨ e.t = s) ∧ (uqs acc s).length ≤ acc.length + 1 := by
   unfold uqs
   by_cases h : sdg s ∈ ids acc
   ·rw [if_pos h]; exact ⟨h1,h2,fun e he => .inl he,Nat.le_succ _⟩
   ·rw [if_neg h]
    refine ⟨?_,fun e he => ?_,fun e he => ?_,by rw [List.length_append]; exact Nat.le_refl _⟩
    ·unfold ids at h1 h ⊢
     rw [List.map_append]
     refine List.nodup_append.2 ⟨h1,by simp,fun a ha b hb => ?_⟩
     rw [List.mem_singleton.1 hb]
     exact fun (e : a = sdg s) => h (e ▸ ha)
    ·rcases List.mem_append.1 he with he | he
     ·exact h2 e he
     ·rw [List.mem_singleton.1 he]; rfl
    ·rcases List.mem_append.1 he with he | he
     ·exact .inl he
     ·rw [List.mem_singleton.1 he]; exact .inr rfl
  obtain ⟨g1,g2,g3,g4⟩ := uq_all l (uqs acc s) h3.1 h3.2.1
  refine ⟨g1,g2,fun e he => ?_,?_⟩
  ·rcases g3 e he with h | h
   ·rcases h3.2.2.1 e h with h | h
    ·exact .inl h
    ·exact .inr (h ▸ mH)
   ·exact .inr (List.mem_cons_of_mem _ h)
  ·have := h3.2.2.2
   rw [List.foldl_cons,List.length_cons]; omega
theorem uq_nodup (l : List ByteArray) : (ids (uq l)).Nodup := (uq_all l [] List.nodup_nil (fun e h => by cases h)).1
theorem uq_mk0 (l : List ByteArray) : ∀ e ∈ uq l,e = mk0 e.t := (uq_all l [] List.nodup_nil (fun e h => by cases h)).2.1
theorem uq_mem (l : List ByteArray) : ∀ e ∈ uq l,e.t ∈ l := fun e he => ((uq_all l [] List.nodup_nil (fun e h => by cases h)).2.2.1 e he).elim (fun h => by cases h) id
theorem uq_len (l : List ByteArray) : (uq l).length ≤ l.length := by
 have := (uq_all l [] List.nodup_nil (fun e h => by cases h)).2.2.2
 rw [List.length_nil,Nat.zero_add] at this
 exact this
def elt (x y : En) : Bool := decide (I.val x.id < I.val y.id)
def esrt (l : List En) : List En := l.mergeSort fun x y => !elt y x
theorem esrt_perm (l : List En) : (esrt l).Perm l := List.mergeSort_perm l _
theorem esrt_len (l : List En) : (esrt l).length = l.length := (esrt_perm l).length_eq
theorem esrt_le (l : List En) : (esrt l).Pairwise fun x y => I.val x.id ≤ I.val y.id := by
 have h := List.pairwise_mergeSort (le := fun x y : En => !elt y x) (fun a b c h1 h2 => by
  simp only [elt,Bool.not_eq_true',decide_eq_false_iff_not] at *
  omega) (fun a b => by
  simp only [elt,Bool.or_eq_true,Bool.not_eq_true',decide_eq_false_iff_not]
  omega) l
 refine h.imp fun {x y} hxy => ?_
 simp only [elt,Bool.not_eq_true',decide_eq_false_iff_not] at hxy
 omega
def Strict (l : List En) : Prop := l.Pairwise fun x y => I.val x.id < I.val y.id
theorem strict_of : ∀ {l : List En},(ids l).Nodup → (∀ e ∈ l,e.id.length = 32) → (l.Pairwise fun x y => I.val x.id ≤ I.val y.id) → Strict l
 | [],_,_,_ => List.Pairwise.nil
 | x :: l,hn,hl,hs => by
  have hn' : (ids (x :: l)).Nodup := hn
  unfold ids at hn'
  rw [List.map_cons,List.nodup_cons] at hn'
  rw [List.pairwise_cons] at hs
  refine List.pairwise_cons.2 ⟨fun y hy => ?_,strict_of hn'.2 (fun e he => hl e (List.mem_cons_of_mem _ he)) hs.2⟩
  have h1 := hs.1 y hy
  have h2 : I.val x.id ≠ I.val y.id := fun e => hn'.1 (List.mem_map.2 ⟨y,hy,(I.val_inj ((hl x mH).trans (hl y (List.mem_cons_of_mem _ hy)).symm) e).symm⟩)
  omega
theorem Strict.nodup {l : List En} (h : Strict l) : (ids l).Nodup := by
 unfold ids
 exact List.Pairwise.map _ (fun a b hab e => by rw [e] at hab; exact Nat.lt_irrefl _ hab) h
theorem strict_eq : ∀ {a b : List En},a.Perm b → Strict a → Strict b → a = b
 | [],b,hp,_,_ => by rw [List.nil_perm.1 hp]
 | x :: a,b,hp,ha,hb => by
  cases b with
  | nil => exact absurd hp.length_eq (by simp)
  | cons y b =>
   have ha' := List.pairwise_cons.1 ha
   have hb' := List.pairwise_cons.1 hb
   have hxy : x = y := by
    have h1 : x ∈ y :: b := hp.mem_iff.1 mH
    have h2 : y ∈ x :: a := hp.mem_iff.2 mH
    rcases List.mem_cons.1 h1 with e | h1
    ·exact e
    ·rcases List.mem_cons.1 h2 with e | h2
     ·exact e.symm
     ·have g1 := ha'.1 y h2
      have g2 := hb'.1 x h1
      omega
   subst hxy
   rw [strict_eq ((List.perm_cons x).1 hp) ha'.2 hb'.2]
theorem uq_id {l : List ByteArray} : ∀ e ∈ uq l,e.id.length = 32 := fun e he => by rw [uq_mk0 l e he]; exact sdg_len _
theorem esrt_id {l : List ByteArray} : ∀ e ∈ esrt (uq l),e.id.length = 32 := fun e he => uq_id e ((esrt_perm _).mem_iff.1 he)
theorem esrt_strict (l : List ByteArray) : Strict (esrt (uq l)) := by
 refine strict_of ?_ esrt_id (esrt_le _)
 unfold ids
 exact (((esrt_perm (uq l)).map En.id).nodup_iff).2 (uq_nodup l)
def fb (t : ByteArray) : Nat := (t.data.toList.getD 0 0).toNat
def lstR : List En → Nat → Option Nat
 | [],_ => none
 | x :: l,k => if 0 < x.t.size ∧ fb x.t = k then some l.length else lstR l k
def lst (acc : List En) (k : Nat) : Option Nat := lstR acc.reverse k
theorem lst_snoc (acc : List En) (x : En) (k : Nat) : lst (acc ++ [x]) k = if 0 < x.t.size ∧ fb x.t = k then some acc.length else lst acc k := by
 unfold lst
 rw [List.reverse_append,List.reverse_cons,List.reverse_nil,List.nil_append,List.cons_append,List.nil_append,lstR,List.length_reverse]
theorem lstR_lt : ∀ {l : List En} {k j : Nat},lstR l k = some j → j < l.length
 | [],_,_,h => by cases h
 | x :: l,k,j,h => by
  rw [lstR] at h
  split at h
  ·rw [← Option.some.inj h]; exact Nat.lt_succ_self _
  ·exact Nat.lt_succ_of_lt (lstR_lt h)
theorem lst_lt {l : List En} {k j : Nat} (h : lst l k = some j) : j < l.length := by have := lstR_lt h; rwa [List.length_reverse] at this
def mkE (acc : List En) (x : En) : En :=
 if x.t.size = 0 then x else match lst acc (fb x.t) with
 | none => x
 | some j => if (acc.getD j ez).p < 4 ∧ (mk (acc.getD j ez).t x.t).length + 32 ≤ x.t.size then ⟨x.id,x.t,(acc.getD j ez).id,tx (mk (acc.getD j ez).t x.t),(acc.getD j ez).p + 1⟩ else x
def chs (acc : List En) (x : En) : List En := acc ++ [mkE acc x]
def chn (l : List En) : List En := l.foldl chs []
theorem mkE_zero {acc : List En} {x : En} (h : x.t.size = 0) : mkE acc x = x := if_pos h
theorem mkE_none {acc : List En} {x : En} (h : ¬ x.t.size = 0) (h1 : lst acc (fb x.t) = none) : mkE acc x = x := by unfold mkE; rw [if_neg h,h1]
theorem mkE_far {acc : List En} {x : En} {j : Nat} (h : ¬ x.t.size = 0) (h1 : lst acc (fb x.t) = some j) (h2 : ¬ ((acc.getD j ez).p < 4 ∧ (mk (acc.getD j ez).t x.t).length + 32 ≤ x.t.size)) : mkE acc x = x := by unfold mkE; rw [if_neg h,h1]; exact if_neg h2
theorem mkE_some {acc : List En} {x : En} {j : Nat} (h : ¬ x.t.size = 0) (h1 : lst acc (fb x.t) = some j) (h2 : (acc.getD j ez).p < 4) (h3 : (mk (acc.getD j ez).t x.t).length + 32 ≤ x.t.size) : mkE acc x = ⟨x.id,x.t,(acc.getD j ez).id,tx (mk (acc.getD j ez).t x.t),(acc.getD j ez).p + 1⟩ := by unfold mkE; rw [if_neg h,h1]; exact if_pos ⟨h2,h3⟩
theorem mkE_cases (acc : List En) (x : En) : mkE acc x = x ∨ ∃ j,¬ x.t.size = 0 ∧ lst acc (fb x.t) = some j ∧ (acc.getD j ez).p < 4 ∧ (mk (acc.getD j ez).t x.t).length + 32 ≤ x.t.size ∧ mkE acc x = ⟨x.id,x.t,(acc.getD j ez).id,tx (mk (acc.getD j ez).t x.t),(acc.getD j ez).p + 1⟩ := by
 by_cases h : x.t.size = 0
 ·exact .inl (mkE_zero h)
 ·cases h1 : lst acc (fb x.t) with
  | none => exact .inl (mkE_none h h1)
  | some j =>
   by_cases h2 : (acc.getD j ez).p < 4 ∧ (mk (acc.getD j ez).t x.t).length + 32 ≤ x.t.size
   ·exact .inr ⟨j,h,rfl,h2.1,h2.2,mkE_some h h1 h2.1 h2.2⟩
   ·exact .inl (mkE_far h h1 h2)
theorem mkE_id (acc : List En) (x : En) : (mkE acc x).id = x.id ∧ (mkE acc x).t = x.t := by
 rcases mkE_cases acc x with h | ⟨j,_,_,_,_,h⟩ <;> rw [h] <;> exact ⟨rfl,rfl⟩
theorem chn_take {l : List En} {i : Nat} (h : i < l.length) : chn (l.take (i + 1)) = chn (l.take i) ++ [mkE (chn (l.take i)) (l.getD i ez)] := by
 unfold chn
 rw [List.take_succ_eq_append_getElem h,List.foldl_append,getD_of _ h]; rfl
theorem chn_snoc (l : List En) (x : En) : chn (l ++ [x]) = chn l ++ [mkE (chn l) x] := by unfold chn; rw [List.foldl_append]; rfl
theorem chn_len (l : List En) : (chn l).length = l.length := by
 refine snoc_ind (p := fun l => (chn l).length = l.length) rfl (fun l x ih => ?_) l
 rw [chn_snoc,List.length_append,List.length_append,ih]; rfl
theorem chn_ids (l : List En) : ids (chn l) = ids l ∧ txs (chn l) = txs l := by
 refine snoc_ind (p := fun l => ids (chn l) = ids l ∧ txs (chn l) = txs l) ⟨rfl,rfl⟩ (fun l x ih => ?_) l
 ·obtain ⟨h1,h2⟩ := mkE_id (chn l) x
  unfold ids txs at *
  rw [chn_snoc,List.map_append,List.map_append,List.map_append,List.map_append,ih.1,ih.2]
  exact ⟨by rw [List.map_cons,List.map_cons,h1],by rw [List.map_cons,List.map_cons,h2]⟩
def planF (l : List ByteArray) : List En := chn (esrt (uq l))
theorem planF_len (l : List ByteArray) : (planF l).length ≤ l.length := by
 unfold planF
 rw [chn_len,esrt_len]; exact uq_len l
def partE (e : En) : List UInt8 := e.id ++ (if 0 < e.p then be 1 1 ++ (e.b ++ text4 e.d) else be 0 1 ++ text4 e.t)
def bodyF (es : List En) : List UInt8 := [80,65,67,75] ++ (four es.length ++ flat partE es)
def fileF (es : List En) : List UInt8 := bodyF es ++ shaD (bodyF es)
structure EnOk (e : En) : Prop where
 id : e.id.length = 32
 b : e.b.length = 32
 t : e.t.size ≤ 32768
 d : e.d.size ≤ 32768
theorem partE_len {e : En} (h : EnOk e) : 37 ≤ (partE e).length ∧ (partE e).length ≤ 32837 := by
 unfold partE
 have h1 := h.id
 have h2 := h.b
 have h3 := h.t
 have h4 := h.d
 split
 ·rw [List.length_append,List.length_append,List.length_append,text4_len,be_len]; omega
 ·rw [List.length_append,List.length_append,text4_len,be_len]; omega
theorem flat_cons {α : Type} (f : α → List UInt8) (x : α) (l : List α) : flat f (x :: l) = f x ++ flat f l := by simp [flat]
theorem parts_len : ∀ {es : List En},(∀ e ∈ es,EnOk e) → 37 * es.length ≤ (flat partE es).length ∧ (flat partE es).length ≤ 32837 * es.length
 | [],_ => ⟨Nat.le_refl _,Nat.le_refl _⟩
 | e :: es,h => by
  have h1 := partE_len (h e mH)
  have h2 := parts_len (es := es) fun x hx => h x (List.mem_cons_of_mem _ hx)
  rw [flat_cons,List.length_append,List.length_cons]
  omega
theorem body_len {es : List En} (h : ∀ e ∈ es,EnOk e) : 8 + 37 * es.length ≤ (bodyF es).length ∧ (bodyF es).length ≤ 8 + 32837 * es.length := by
 have h1 := parts_len h
 have h4 : (four es.length).length = 4 := be_len _ _
 unfold bodyF
 rw [List.length_append,List.length_append,h4]
 show 8 + 37 * es.length ≤ 4 + _ ∧ 4 + _ ≤ _
 omega
theorem mkE_ok {acc : List En} {x : En} (hx : EnOk x) (ha : ∀ e ∈ acc,EnOk e) : EnOk (mkE acc x) := by
 rcases mkE_cases acc x with h | ⟨j,_,h1,_,h3,h⟩
 ·rw [h]; exact hx
 ·rw [h]
  have h9 := hx.t
  exact ⟨hx.id,(ha _ (K.getD_mem (lst_lt h1))).id,hx.t,by show (tx _).size ≤ _; rw [tx_size]; omega⟩
theorem chn_ok (l : List En) : (∀ e ∈ l,EnOk e) → ∀ e ∈ chn l,EnOk e := by
 refine snoc_ind (p := fun l => (∀ e ∈ l,EnOk e) → ∀ e ∈ chn l,EnOk e) (fun _ e he => by cases he) (fun l x ih h => ?_) l
 ·intro e he
  rw [chn_snoc] at he
  have h1 := ih fun e he => h e (mL he)
  rcases List.mem_append.1 he with he | he
  ·exact h1 e he
  ·rw [List.mem_singleton.1 he]
   exact mkE_ok (h x (mR mH)) h1
theorem mk0_ok {s : ByteArray} (h : s.size ≤ 32768) : EnOk (mk0 s) := ⟨sdg_len s,dzz_len,h,Nat.zero_le _⟩
theorem srt_ok {l : List ByteArray} (h : ∀ s ∈ l,s.size ≤ 32768) : ∀ e ∈ esrt (uq l),EnOk e := fun e he => by
 have he := (esrt_perm _).mem_iff.1 he
 rw [uq_mk0 l e he]
 exact mk0_ok (h _ (uq_mem l e he))
theorem planF_ok {l : List ByteArray} (h : ∀ s ∈ l,s.size ≤ 32768) : ∀ e ∈ planF l,EnOk e := chn_ok _ (srt_ok h)
end Go.Proofs.YtbeegepcdglcaaaGreatDoor
namespace Go.Proofs.YtbeegepcdglcaaaGreatDoor
open K
set_option linter.unusedVariables false
structure EnL (e : En) : Prop where
 id : e.id.length = 32
 b : e.b.length = 32
theorem EnOk.l {e : En} (h : EnOk e) : EnL e := ⟨h.id,h.b⟩
def enc (e : En) : List Value := dgc e.id ++ ([.string e.t] ++ (dgc e.b ++ [.string e.d,.int .i64 (e.p : Int)]))
theorem enc_len {e : En} (h : EnL e) : (enc e).length = 67 := by
 unfold enc
 rw [List.length_append,List.length_append,List.length_append,dgc_len h.id,dgc_len h.b]; rfl
theorem enc_id {e : En} {j : Nat} {v : Value} (h : (dgc e.id)[j]? = some v) : (enc e)[0 + j]? = some v := by rw [Nat.zero_add]; exact app_l h
theorem enc_t {e : En} (h : EnL e) : (enc e)[32]? = some (.string e.t) := app_r (n := 32) (j := 0) (dgc_len h.id) rfl
theorem enc_b {e : En} (h : EnL e) {j : Nat} {v : Value} (hj : (dgc e.b)[j]? = some v) : (enc e)[33 + j]? = some v := by
 rw [show 33 + j = 32 + (1 + j) by omega]
 exact app_r (dgc_len h.id) (app_r (n := 1) rfl (app_l hj))
theorem enc_d {e : En} (h : EnL e) : (enc e)[65]? = some (.string e.d) := app_r (n := 32) (j := 33) (dgc_len h.id) (app_r (n := 1) (j := 32) rfl (app_r (n := 32) (j := 0) (dgc_len h.b) rfl))
theorem enc_p {e : En} (h : EnL e) : (enc e)[66]? = some (.int .i64 (e.p : Int)) := app_r (n := 32) (j := 34) (dgc_len h.id) (app_r (n := 1) (j := 33) rfl (app_r (n := 32) (j := 1) (dgc_len h.b) rfl))
theorem all_enc (e : En) : ∀ v ∈ enc e,K.one v = true := by
 intro v h
 unfold enc at h
 rcases List.mem_append.1 h with h | h
 ·exact all_dgc _ v h
 ·rcases List.mem_append.1 h with h | h
  ·rw [List.mem_singleton.1 h]; rfl
  ·rcases List.mem_append.1 h with h | h
   ·exact all_dgc _ v h
   ·simp only [List.mem_cons,List.not_mem_nil,or_false] at h
    rcases h with rfl | rfl <;> rfl
theorem ez_l : EnL ez := ⟨dzz_len,dzz_len⟩
theorem own_at {o : K.Own} {e : TypeId} {sz n : Nat} {xs : List Value} (hok : OwnOk o sz n xs) (h0 : 0 < n) : ∃ (b : Nat) (cs : Array Value),Own.a o = some ⟨b,0,none⟩ ∧ (b,Obj.cells cs e (0,0)) ∈ Own.o e xs o ∧ ∀ j,j < xs.length → cs[0 + j]? = some (xs.getD j undef) := by
 obtain ⟨⟨b,cap,junk⟩,rfl⟩ := own_some hok h0
 refine ⟨b,_,rfl,mH,fun j hj => ?_⟩
 rw [Nat.zero_add]
 simp only [List.getElem?_toArray]
 rw [List.getElem?_append_left hj,List.getD_eq_getElem?_getD,List.getElem?_eq_getElem hj]; rfl
theorem enl_len : ∀ {l : List En},(∀ e ∈ l,EnL e) → (l.flatMap enc).length = l.length * 67
 | [],_ => rfl
 | x :: l,h => by rw [List.flatMap_cons,List.length_append,enl_len (fun e he => h e (List.mem_cons_of_mem _ he)),enc_len (h x mH),List.length_cons]; omega
theorem en_cell2 {l : List En} (hl : ∀ e ∈ l,EnL e) {cs : Array Value} {off : Nat} (hcs : ∀ j,j < l.length * 67 → cs[off + j]? = some ((l.flatMap enc).getD j undef)) {i : Nat} (hi : i < l.length) {j : Nat} {v : Value} (hv : (enc (l.getD i ez))[j]? = some v) : cs[off + i * 67 + j]? = some v :=
 fl_cell (f := enc) (sz := 67) (l := l) ez (fun x hx => enc_len (hl x hx)) hcs hi hv
theorem en_cell {l : List En} (hl : ∀ e ∈ l,EnL e) {cs : Array Value} (hcs : ∀ j,j < (l.flatMap enc).length → cs[0 + j]? = some ((l.flatMap enc).getD j undef)) {i : Nat} (hi : i < l.length) {j : Nat} {v : Value} (hv : (enc (l.getD i ez))[j]? = some v) : cs[i * 67 + j]? = some v := by
 have h := en_cell2 hl (off := 0) (fun j hj => hcs j (by rw [enl_len hl]; exact hj)) hi hv
 rwa [Nat.zero_add] at h
theorem mk0_l (s : ByteArray) : EnL (mk0 s) := ⟨sdg_len s,dzz_len⟩
theorem list32e {d : List UInt8} (h : d.length = 32) : ∃ x0 x1 x2 x3 x4 x5 x6 x7 x8 x9 x10 x11 x12 x13 x14 x15 x16 x17 x18 x19 x20 x21 x22 x23 x24 x25 x26 x27 x28 x29 x30 x31,d = [x0,x1,x2,x3,x4,x5,x6,x7,x8,x9,x10,x11,x12,x13,x14,x15,x16,x17,x18,x19,x20,x21,x22,x23,x24,x25,x26,x27,x28,x29,x30,x31] := by
 match d,h with
 | [x0,x1,x2,x3,x4,x5,x6,x7,x8,x9,x10,x11,x12,x13,x14,x15,x16,x17,x18,x19,x20,x21,x22,x23,x24,x25,x26,x27,x28,x29,x30,x31],_ => exact ⟨x0,x1,x2,x3,x4,x5,x6,x7,x8,x9,x10,x11,x12,x13,x14,x15,x16,x17,x18,x19,x20,x21,x22,x23,x24,x25,x26,x27,x28,x29,x30,x31,rfl⟩
set_option maxRecDepth 100000 in
theorem build_e {d : List UInt8} (hd : d.length = 32) (s : ByteArray) (w : World) : (Instr.build 62 #[(0,.agg (bv d)),(1,.string s)]).run Tryz.prog w = .ok (.agg (enc ⟨d,s,dzz,ByteArray.empty,0⟩).toArray) w := by
 obtain ⟨x0,x1,x2,x3,x4,x5,x6,x7,x8,x9,x10,x11,x12,x13,x14,x15,x16,x17,x18,x19,x20,x21,x22,x23,x24,x25,x26,x27,x28,x29,x30,x31,rfl⟩ := list32e hd
 kernel_rfl
theorem enc_upd {x : En} (hx : EnL x) {d : List UInt8} (hd : d.length = 32) (s : ByteArray) (n : Nat) : ((spl (enc x).toArray 33 (bv d).toList).setIfInBounds 65 (.string s)).setIfInBounds 66 (.int .i64 ((n : Int) + 1)) = (enc ⟨x.id,x.t,d,s,n + 1⟩).toArray := by
 have h1 := spl_list (dgc x.id ++ [.string x.t]) (dgc x.b) [.string x.d,.int .i64 (x.p : Int)] (dgc d) (by rw [dgc_len hx.b,dgc_len hd])
 have hl : (dgc x.id ++ [Value.string x.t]).length = 33 := by rw [List.length_append,dgc_len hx.id]; rfl
 rw [hl] at h1
 have e : dgc x.id ++ [Value.string x.t] ++ dgc x.b ++ [.string x.d,.int .i64 (x.p : Int)] = enc x := by unfold enc; simp only [List.append_assoc]
 rw [e] at h1
 rw [show (bv d).toList = dgc d from rfl,h1]
 have h65 : (dgc x.id ++ [Value.string x.t] ++ dgc d).length = 65 := by rw [List.length_append,hl,dgc_len hd]
 rw [List.setIfInBounds_toArray,List.setIfInBounds_toArray,List.set_append_right _ _ om,h65,List.set_append_right _ _ om,h65]
 unfold enc
 simp only [List.append_assoc]; rfl
theorem enc_sett {x : En} (hx : EnL x) (s : ByteArray) : (enc x).toArray.setIfInBounds 32 (.string s) = (enc { x with t := s }).toArray := by
 rw [List.setIfInBounds_toArray]
 unfold enc
 rw [List.set_append_right _ _ (by rw [dgc_len hx.id]; exact Nat.le_refl _),dgc_len hx.id]
 rfl
theorem zero_en : (enc ez).toArray.size = 67 := by rw [List.size_toArray,enc_len ez_l]
end Go.Proofs.YtbeegepcdglcaaaGreatDoor
namespace Go.Proofs.YtbeegepcdglcaaaGreatDoor
namespace KD
open K
structure Ext (M : List Nat) (w w' : World) : Prop where
 os : w'.os = w.os
 tape : w'.tape = w.tape
 output : w'.output = w.output
 size : w.heap.size ≤ w'.heap.size
 block : ∀ k,k < w.heap.size → k ∉ M → w'.heap[k]? = w.heap[k]?
 drw : w.drawn ≤ w'.drawn
theorem Ext.refl (M : List Nat) (w : World) : Ext M w w := ⟨rfl,rfl,rfl,Nat.le_refl _,fun _ _ _ => rfl,Nat.le_refl _⟩
theorem Ext.trans {M M' : List Nat} {w w1 w2 : World} (h : Ext M w w1) (h' : Ext M' w1 w2) (hM : ∀ k ∈ M',k < w.heap.size → k ∈ M) : Ext M w w2 :=
 ⟨h'.os.trans h.os,h'.tape.trans h.tape,h'.output.trans h.output,Nat.le_trans h.size h'.size,fun k hk hn =>
  (h'.block k (Nat.lt_of_lt_of_le hk h.size) (fun hm => hn (hM k hm hk))).trans (h.block k hk hn),Nat.le_trans h.drw h'.drw⟩
structure HP (w0 : World) (M : List Nat) (R O : List (Nat × Obj)) (w : World) : Prop where
 ext : Ext M w0 w
 ro : ∀ e ∈ R,w.heap[e.1]? = some e.2
 rod : ∀ e ∈ R,e.1 < w0.heap.size ∧ e.1 ∉ M
 own : ∀ e ∈ O,w.heap[e.1]? = some e.2
 dist : (O.map (·.1)).Nodup
 mine : ∀ e ∈ O,w0.heap.size ≤ e.1 ∨ e.1 ∈ M
section
variable {w0 w w' : World} {M : List Nat} {R O : List (Nat × Obj)}
theorem lt_of_get {b : Nat} {o : Obj} (h : w.heap[b]? = some o) : b < w.heap.size := by
 rcases Nat.lt_or_ge b w.heap.size with hh | hh
 ·exact hh
 ·rw [Array.getElem?_eq_none hh] at h; cases h
theorem HP.call (h : HP w0 M R O w) {M' : List Nat} (hx : Ext M' w w') (O' : List (Nat × Obj)) (hO : O'.Sublist O) (hM : ∀ k ∈ M',k ∈ O.map (·.1)) (hd : ∀ e ∈ O',e.1 ∉ M') : HP w0 M R O' w' := by
 have hM0 : ∀ k ∈ M',k < w0.heap.size → k ∈ M := by
  intro k hk hlt
  obtain ⟨e,he,rfl⟩ := List.mem_map.1 (hM k hk)
  rcases h.mine e he with h1 | h1
  ·omega
  ·exact h1
 refine ⟨h.ext.trans hx hM0,fun e he => ?_,h.rod,fun e he => ?_,?_,fun e he => h.mine e (hO.subset he)⟩
 ·have hr := h.ro e he
  rw [hx.block e.1 (lt_of_get hr) (fun hm => (h.rod e he).2 (hM0 _ hm (h.rod e he).1))]; exact hr
 ·have ho := h.own e (hO.subset he)
  rw [hx.block e.1 (lt_of_get ho) (hd e he)]; exact ho
 ·exact h.dist.sublist (hO.map _)
theorem HP.calm (h : HP w0 M R O w) (hx : Ext [] w w') : HP w0 M R O w' := h.call hx O (List.Sublist.refl _) (fun _ hk => by cases hk) (fun _ _ => by simp)
theorem HP.add (h : HP w0 M R O w) {b : Nat} {o : Obj} (hb : w.heap[b]? = some o) (hn : b ∉ O.map (·.1)) (hm : w0.heap.size ≤ b ∨ b ∈ M) : HP w0 M R ((b,o) :: O) w :=
 ⟨h.ext,h.ro,h.rod,fun e he => by
  rcases List.mem_cons.1 he with rfl | he
  ·exact hb
  ·exact h.own e he,by simp only [List.map_cons]; exact List.nodup_cons.2 ⟨hn,h.dist⟩,fun e he => by
  rcases List.mem_cons.1 he with rfl | he
  ·exact hm
  ·exact h.mine e he⟩
theorem HP.fresh (h : HP w0 M R O w) {b : Nat} (hb : w.heap.size ≤ b) : b ∉ O.map (·.1) := by
 intro hm
 obtain ⟨e,he,rfl⟩ := List.mem_map.1 hm
 have := lt_of_get (h.own e he)
 omega
theorem HP.sub (h : HP w0 M R O w) {O' : List (Nat × Obj)} (hO : O'.Sublist O) : HP w0 M R O' w :=
 ⟨h.ext,h.ro,h.rod,fun e he => h.own e (hO.subset he),h.dist.sublist (hO.map _),fun e he => h.mine e (hO.subset he)⟩
theorem ext_drew (w : World) : Ext [] w { w with drawn := w.drawn + 1 } := ⟨rfl,rfl,rfl,Nat.le_refl _,fun _ _ _ => rfl,Nat.le_succ _⟩
theorem ext_alloc (w : World) (o : Obj) : Ext [] w (w.alloc o) :=
 ⟨rfl,rfl,rfl,by show w.heap.size ≤ (w.heap.push o).size; simp,fun k hk _ => by
  show (w.heap.push o)[k]? = w.heap[k]?
  rw [Array.getElem?_push,if_neg om],Nat.le_refl _⟩
theorem get_alloc (w : World) (o : Obj) : (w.alloc o).heap[w.heap.size]? = some o := by
 show (w.heap.push o)[w.heap.size]? = some o
 simp
theorem HP.drew (h : HP w0 M R O w) : HP w0 M R O { w with drawn := w.drawn + 1 } := h.calm (ext_drew w)
theorem HP.alloc (h : HP w0 M R O w) (o : Obj) : HP w0 M R ((w.heap.size,o) :: O) (w.alloc o) :=
 (h.calm (ext_alloc w o)).add (get_alloc w o) (h.fresh (Nat.le_refl _)) (.inl h.ext.size)
theorem cell_cells {b off : Nat} {cs : Array Value} {t : TypeId} {fr : Nat × Nat} (h : w.heap[b]? = some (.cells cs t fr)) : w.cell? ⟨b,off,none⟩ = cs[off]? := by
 simp [World.cell?,h]
theorem HP.ocell (h : HP w0 M R O w) (i : Nat) {b off : Nat} {cs : Array Value} {t : TypeId} {fr : Nat × Nat} {v : Value} (hi : O[i]? = some (b,.cells cs t fr)) (hv : cs[off]? = some v) : w.cell? ⟨b,off,none⟩ = some v := by
 rw [cell_cells (h.own _ (List.mem_of_getElem? hi))]; exact hv
end
abbrev KI := Code ⊕ Nat ⊕ (Act → World → Prop)
def aft (P : Program) (ro : Option Nat) (Q : Exit → Act → World → Prop) : List KI → Exit → Act → World → Prop
 | [],e,a,w => Q e a w
 | .inl c :: ks,e,a,w => match e with
  | .normal => c.wpIn (fen ro) 0 P (aft P ro Q ks) a w
  | e => aft P ro Q ks e a w
 | .inr (.inl id) :: ks,e,a,w => match e with
  | .exit j => if j = id then aft P ro Q ks .normal a w else aft P ro Q ks (.exit j) a w
  | e => aft P ro Q ks e a w
 | .inr (.inr I) :: ks,e,a,w => match e with
  | .normal => I a w
  | e => aft P ro Q ks e a w
def popTo (id : Nat) : List KI → Option (List KI)
 | [] => none
 | .inr (.inl j) :: ks => bif Nat.beq j id then some ks else popTo id ks
 | .inl _ :: ks => popTo id ks
 | .inr (.inr _) :: ks => popTo id ks
def nrm : Nat → List KI → List KI
 | 0,ks => ks
 | f + 1,ks => match ks with
  | .inl (.seq x y) :: ks => nrm f (.inl x :: .inl y :: ks)
  | .inl (.block id c) :: ks => nrm f (.inl c :: .inr (.inl id) :: ks)
  | .inl .skip :: ks => nrm f ks
  | .inl (.label _) :: ks => nrm f ks
  | .inr (.inl _) :: ks => nrm f ks
  | .inl (.exit id) :: ks => match popTo id ks with
   | some ks' => nrm f ks'
   | none => .inl (.exit id) :: ks
  | ks => ks
section
variable {P : Program} {ro : Option Nat} {Q : Exit → Act → World → Prop} {a : Act} {w : World}
theorem aft_code (y : Code) (ks : List KI) : aft P ro Q (.inl y :: ks) = Exit.then (y.wpIn (fen ro) 0 P (aft P ro Q ks)) (aft P ro Q ks) := by
 funext e a w
 cases e <;> rfl
theorem aft_block (id : Nat) (ks : List KI) : aft P ro Q (.inr (.inl id) :: ks) = Exit.inBlock id (aft P ro Q ks) := by
 funext e a w
 cases e <;> rfl
theorem popTo_ok {id : Nat} : ∀ {ks ks' : List KI},popTo id ks = some ks' → aft P ro Q ks' .normal a w → aft P ro Q ks (.exit id) a w
 | [],_,h,_ => by cases h
 | .inr (.inl j) :: ks,ks',h,h' => by
  simp only [popTo] at h
  cases hb : Nat.beq j id with
  | true =>
   simp only [hb,cond_true,Option.some.injEq] at h
   subst h
   rw [beq_iff.1 hb]
   show (if id = id then _ else _)
   rw [if_pos rfl]; exact h'
  | false =>
   simp only [hb,cond_false] at h
   have hne : ¬ id = j := fun e => by
    have := beq_iff.2 e.symm
    rw [hb] at this; cases this
   show (if id = j then _ else _)
   rw [if_neg hne]; exact popTo_ok h h'
 | .inl _ :: ks,ks',h,h' => popTo_ok (ks := ks) h h'
 | .inr (.inr _) :: ks,ks',h,h' => popTo_ok (ks := ks) h h'
theorem nrm_ok : ∀ (f : Nat) {ks : List KI},aft P ro Q (nrm f ks) .normal a w → aft P ro Q ks .normal a w
 | 0,_,h => h
 | f + 1,ks,h => by
  unfold nrm at h
  split at h
  ·rename_i x y ks
   have := nrm_ok f h
   show Code.wpIn (fen ro) 0 P (Code.seq x y) (aft P ro Q ks) a w
   refine wpIn_seq ?_
   rw [← aft_code]; exact this
  ·rename_i id c ks
   have := nrm_ok f h
   show Code.wpIn (fen ro) 0 P (Code.block id c) (aft P ro Q ks) a w
   refine wpIn_block ?_
   rw [← aft_block]; exact this
  ·exact wpIn_skip (nrm_ok f h)
  ·exact wpIn_label (nrm_ok f h)
  ·rename_i ks
   exact nrm_ok (ks := ks) f h
  ·rename_i id ks
   split at h
   ·rename_i ks' hp
    exact wpIn_exit (popTo_ok hp (nrm_ok f h))
   ·exact h
  ·exact h
theorem aft_ret : ∀ (ks : List KI),Q .ret a w → aft P ro Q ks .ret a w
 | [],h => h
 | .inl _ :: ks,h => aft_ret ks h
 | .inr (.inl _) :: ks,h => aft_ret ks h
 | .inr (.inr _) :: ks,h => aft_ret ks h
theorem aft_panic {c : List PanicEntry} : ∀ (ks : List KI),aft P ro Q ks (.panic c) a w = Q (.panic c) a w
 | [] => rfl
 | .inl _ :: ks => aft_panic ks
 | .inr (.inl _) :: ks => aft_panic ks
 | .inr (.inr _) :: ks => aft_panic ks
theorem aft_out : ∀ (ks : List KI),aft P ro Q ks .outgrown a w = Q .outgrown a w
 | [] => rfl
 | .inl _ :: ks => aft_out ks
 | .inr (.inl _) :: ks => aft_out ks
 | .inr (.inr _) :: ks => aft_out ks
theorem rowsIn_fen {row : String} {args : Array Value} {R : Value → World → Prop} (h : Rows P row args w R) : RowsIn (fen ro) 0 P row args w R :=
 fun c cs _ => by
  obtain ⟨v,w',r,s⟩ := h c cs
  have h1 : StepsIn (Machine.fenced P Fence.wide) P (lone (Frame.ofRow P row args .normal) (c :: cs) w) (lone (c.finish v) cs w') := stepsIn_wide.2 s
  exact ⟨v,w',r,h1⟩
theorem callsIn_fen {f : FuncId} {args : Array Value} {R : Ending → World → Prop} (h : Calls P f args w R) : CallsIn (fen ro) 0 P f args w R := by
 have h1 : CallsIn Fence.wide 0 P f args w R := callsIn_wide.2 h
 exact h1
def ndf (o : Oper) : Bool := match o.op with | .defer .. => false | _ => true
theorem ndf_spec {o : Oper} (h : ndf o = true) : ∀ c,o.op ≠ .defer c := by
 intro c hc
 simp [ndf,hc] at h
theorem wpIn_of_wp {o : Oper} {next : Act → World → Prop} (hn : ndf o = true) (h : o.wp P a w next Q) : o.wpIn (fen ro) 0 P a w next Q := by
 refine ⟨fun _ _ => trivial,?_⟩
 rw [Oper.semAt_eq _ _ _ (ndf_spec hn)]
 unfold Oper.wp at h
 generalize (execOp a.eval o).run P w = r at h ⊢
 match r,h with
 | .ok (.value v) w',h => exact h
 | .ok .skip w',h => exact h
 | .ok (.defer d) w',h => exact h
 | .ok (.enter f args) w',h => exact ⟨fun h => (by cases h),callsIn_fen h⟩
 | .ok (.row row args) w',h => exact ⟨fun h => (by cases h),rowsIn_fen h⟩
 | .ok (.round ..) w',h => exact h.elim
 | .halt (.panic v) w',h => exact h
theorem wpAnyIn_of_held {S : World → Prop} {md : Region.Mode} {ops : Array Oper} (hl : ¬ LetsOut Q) (hn : ops.all ndf = true) : ∀ (fuel : Nat) (listed : Array Bool) (a : Act) (w : World),wpAnyH P md ops Q S fuel listed a w → wpAnyIn (fen ro) 0 P md ops Q fuel listed a w
 | 0,_,_,_,h => h
 | fuel + 1,_,a,w,h => ⟨h.1,fun i hi => by
  have h2 := wpOp_mono (fun a' w' h' => wpAnyIn_of_held hl hn fuel _ a' w' h'.2) (h.2 i hi)
  unfold wpOp at h2
  unfold wpOpIn
  split at h2
  ·rename_i he
   rw [he]; exact h2
  ·rename_i o he
   rw [he]
   have ho : ndf o = true := by
    obtain ⟨hlt,hx⟩ := Array.getElem?_eq_some_iff.1 he
    exact Array.all_eq_true.1 hn i hlt |> fun h => hx ▸ h
   dsimp only
   split at h2
   ·rename_i hw
    rw [if_pos hw]
    rcases h2 with h2 | h2
    ·exact wpIn_of_wp ho h2
    ·exact absurd h2.2 hl
   ·rename_i hw
    rw [if_neg hw]
    exact ⟨fun _ _ => trivial,h2⟩⟩
end
structure Cx where
 P : Program
 fn : Func
 post : Ending → World → Prop
 w0 : World
 M : List Nat
 ro : Option Nat
 D : List Deferred
 Q0 : Exit → Act → World → Prop
 po : PanicOk Q0
 lo : ¬ LetsOut Q0
 rt : D = [] → ∀ a w v,a.defers = D → (Go.results fn a.tmps).run P w = .ok v w → post (.returned v) w → Q0 .ret a w ∧ Q0 .normal a w
def noOut (post : Ending → World → Prop) (e : Ending) (w : World) : Prop := e ≠ .outgrown ∧ post e w
def Cx.plain (P : Program) (fn : Func) (post : Ending → World → Prop) (w0 : World) (M : List Nat) : Cx where
 P := P
 fn := fn
 post := post
 w0 := w0
 M := M
 ro := none
 D := []
 Q0 := bodyPost P fn (noOut post)
 po := fun c a w d v h => by cases d <;> exact h
 lo := fun ⟨a,w,h⟩ => h.1 rfl
 rt := fun _ a w v hd hr hp => ⟨⟨hd,v,hr,by simp,hp⟩,⟨hd,v,hr,by simp,hp⟩⟩
abbrev Cx.Q (C : Cx) (ks : List KI) : Exit → Act → World → Prop := aft C.P C.ro C.Q0 ks
def Cfg (C : Cx) (R O : List (Nat × Obj)) (Γ : Env) (ks : List KI) : Prop :=
 ∀ a w,St C.fn.ntmps C.D Γ a → HP C.w0 C.M R O w → C.Q ks .normal a w
def CfgL (C : Cx) (R O : List (Nat × Obj)) (Γ : Env) (ops : Array Oper) (rest : List Oper) (ks : List KI) : Prop :=
 ∀ a w,St C.fn.ntmps C.D Γ a → HP C.w0 C.M R O w → wpListIn (fen C.ro) 0 C.P ops (C.Q ks) rest a w
def CfgA (C : Cx) (R Os O : List (Nat × Obj)) (Γ : Env) (ops : Array Oper) (fuel : Nat) (l : Array Bool) (ks : List KI) : Prop :=
 ∀ a w,St C.fn.ntmps C.D Γ a → HP C.w0 C.M R O w → wpAnyH C.P .any ops (C.Q ks) (HP C.w0 C.M R Os) fuel l a w
theorem panicOk (C : Cx) (ks : List KI) : PanicOk (C.Q ks) := by
 intro c a w d v h
 rw [Cx.Q,aft_panic] at *
 exact C.po c a w d v h
theorem notOut (C : Cx) (ks : List KI) : ¬ LetsOut (C.Q ks) := fun ⟨a,w,h⟩ => C.lo ⟨a,w,by rw [Cx.Q,aft_out] at h; exact h⟩
def evR (C : Cx) (S : World → Prop) (Γ : Env) (ops : Array Oper) (l : List Oper) (ds : List Dir) (kp : Option (List Nat)) : Option (Env × List Prop) :=
 bif Region.noSelect ops then
  match evOps C.P S C.fn.ntmps ops l ds Γ with
  | some r => some (match kp with | some ks => keep ks r.1 | none => r.1,r.2)
  | none => none
 else none
section
variable {C : Cx} {R O : List (Nat × Obj)} {Γ Γ' : Env} {ks ks' : List KI} {nd : (World → Prop) → List Prop} {ops : Array Oper}
theorem evR_some {S : World → Prop} {l : List Oper} {ds : List Dir} {kp : Option (List Nat)} {nd : List Prop} (h : evR C S Γ ops l ds kp = some (Γ',nd)) :
  Region.noSelect ops = true ∧ ∃ Γ2,evOps C.P S C.fn.ntmps ops l ds Γ = some (Γ2,nd) ∧ ∀ n D a,St n D Γ2 a → St n D Γ' a := by
 unfold evR at h
 cases hb : Region.noSelect ops with
 | false => simp [hb] at h
 | true =>
  simp only [hb,cond_true] at h
  split at h
  ·rename_i r hr
   simp only [Option.some.injEq,Prod.mk.injEq] at h
   obtain ⟨h1,h2⟩ := h
   refine ⟨rfl,r.1,by rw [hr,← h2],fun n D a hs => ?_⟩
   rw [← h1]
   cases kp with
   | none => exact hs
   | some kp => exact keep_ok kp hs
  ·cases h
theorem Cfg.nrm (h : Cfg C R O Γ (KD.nrm 99 ks)) : Cfg C R O Γ ks := fun a w hs hp => nrm_ok 99 (h a w hs hp)
theorem sel_all (h : Region.noSelect ops = true) {l : List Oper} (hl : ∀ o ∈ l,o ∈ ops.toList) : ∀ o ∈ l,∀ cs b,o.op ≠ .select cs b := by
 intro o ho cs b
 obtain ⟨j,hj⟩ := List.mem_iff_getElem?.1 (hl o ho)
 exact Region.noSelect_spec h j o cs b (by simpa using hj)
theorem Cfg.reg {id : Nat} (hk : KD.nrm 99 ks = .inl (.region id ops false) :: ks') (kp : List Nat) (ds : List Dir) (he : ∀ S,evR C S Γ ops ops.toList ds (some kp) = some (Γ',nd S)) (hn : All (nd (HP C.w0 C.M R O)))
  (h : Cfg C R O Γ' ks') : Cfg C R O Γ ks := by
 refine Cfg.nrm ?_
 rw [hk]
 intro a w hs hp
 obtain ⟨hsel,Γ2,he2,hw⟩ := evR_some (he _)
 refine wpIn_region_list ?_
 have := wplIn_pure (ro := C.ro) (Q := C.Q ks') (l2 := []) (w := w) ops.toList ds Γ a (sel_all hsel (fun _ h => h)) hs he2 hn.mem hp (fun a' hs' => h a' w (hw _ _ _ hs') hp)
 simpa using this
theorem Cfg.cond {c : Operand} {x y : Code} (hk : KD.nrm 99 ks = .inl (.cond c x y) :: ks') {b : Bool} (hc : opd Γ [] c = some (.bool b)) (ht : b = true → Cfg C R O Γ (.inl x :: ks')) (hf : b = false → Cfg C R O Γ (.inl y :: ks')) :
  Cfg C R O Γ ks := by
 refine Cfg.nrm ?_
 rw [hk]
 intro a w hs hp
 have he := opd_ok hs (holds_nil _) hc
 exact wpIn_cond_split he (fun hb => ht hb a w hs hp) (fun hb => hf hb a w hs hp)
def Conv (Γ : Env) : Env → Prop
 | [] => True
 | e :: Γ' => find Γ e.1 = some e.2 ∧ Conv Γ Γ'
def Again (C : Cx) (R : List (Nat × Obj)) {ι : Type} (Γi : ι → Env) (Oi : ι → List (Nat × Obj)) (I : ι → Prop) (μ : ι → Nat) (x : ι) (a : Act) (w : World) : Prop :=
 ∃ y,I y ∧ μ y < μ x ∧ St C.fn.ntmps C.D (Γi y) a ∧ HP C.w0 C.M R (Oi y) w
def putO (Γ : Env) : Option Nat → Value → Env
 | some d,v => put Γ d [] v
 | none,_ => Γ
theorem putO_ok {n : Nat} {D : List Deferred} {a : Act} {d : Option Nat} {v : Value} (hs : St n D Γ a) (hd : ∀ t,d = some t → t < n) : St n D (putO Γ d v) (a.put d v) := by
 cases d with
 | none => exact hs
 | some t => exact put_ok hs (hd t rfl) rfl (fun _ => rfl) (fun h => absurd (holds_nil _) h)
def Eff (C : Cx) (R O : List (Nat × Obj)) (Γ : Env) (o : Oper) (ι : Type) (V : ι → Value) (O' : ι → List (Nat × Obj)) (F : ι → Prop) : Prop :=
 ∀ a w,St C.fn.ntmps C.D Γ a → HP C.w0 C.M R O w → ∀ (Kt : Act → World → Prop) (Q : Exit → Act → World → Prop),
  (∀ x w',F x → HP C.w0 C.M R (O' x) w' → Kt (a.put o.dst (V x)) w') → o.wp C.P a w Kt Q
def guardV (Γ : Env) (ops : Array Oper) (o : Oper) : Option Value :=
 match o.guard with
 | none => some (.bool true)
 | some (j,_) => match (ops[j]?).bind (·.dst) with
  | some tj => K.look Γ [] tj
  | none => none
def guardW (o : Oper) : Option Value :=
 match o.guard with
 | none => some (.bool true)
 | some (_,want) => some (.bool want)
theorem goes_wanted {n : Nat} {D : List Deferred} {a : Act} {o : Oper} (hs : St n D Γ a) (h : guardV Γ ops o = guardW o) : Region.wanted o (yielded ops a.tmps) = true := by
 unfold guardV guardW at h
 split at h
 ·rename_i hg; simp [Region.wanted,hg]
 ·rename_i j want hg
  split at h
  ·rename_i tj hj
   exact (wanted_iff hg hj).2 (look_ok hs (holds_nil _) h)
  ·cases h
def DstOk (n : Nat) (o : Oper) : Bool := match o.dst with | some t => Nat.blt t n | none => true
theorem DstOk.lt {n : Nat} {o : Oper} (h : DstOk n o = true) : ∀ t,o.dst = some t → t < n := by
 intro t ht
 simp only [DstOk,ht] at h
 exact Nat.lt_of_succ_le (Nat.le_of_ble_eq_true h)
theorem Cfg.begL {id : Nat} (hk : KD.nrm 99 ks = .inl (.region id ops false) :: ks') (h : CfgL C R O Γ ops ops.toList ks') : Cfg C R O Γ ks := by
 refine Cfg.nrm ?_
 rw [hk]
 intro a w hs hp
 exact wpIn_region_list (h a w hs hp)
theorem CfgL.pure {rest : List Oper} (k : Nat) (ds : List Dir) (kp : Option (List Nat)) (hm : (rest.all fun o => match o.op with | .select .. => false | _ => true) = true)
  (he : ∀ S,evR C S Γ ops (rest.take k) ds kp = some (Γ',nd S)) (hn : All (nd (HP C.w0 C.M R O))) (h : CfgL C R O Γ' ops (rest.drop k) ks) : CfgL C R O Γ ops rest ks := by
 intro a w hs hp
 obtain ⟨hsel,Γ2,he2,hw⟩ := evR_some (he _)
 have := wplIn_pure (ro := C.ro) (Q := C.Q ks) (l2 := rest.drop k) (w := w) (rest.take k) ds Γ a (fun o ho cs b hh => by
  have := List.all_eq_true.1 hm o (List.mem_of_mem_take ho)
  simp [hh] at this) hs he2 hn.mem hp (fun a' hs' => h a' w (hw _ _ _ hs') hp)
 rwa [List.take_append_drop] at this
theorem CfgL.eff {rest rest' : List Oper} {o : Oper} (hr : rest = o :: rest') (hd : DstOk C.fn.ntmps o = true) (hg : guardV Γ ops o = guardW o) {ι : Type} {V : ι → Value} {O' : ι → List (Nat × Obj)} {F : ι → Prop} (he : Eff C R O Γ o ι V O' F)
  (h : ∀ x,F x → CfgL C R (O' x) (putO Γ o.dst (V x)) ops rest' ks) (hnd : ndf o = true := by kernel_rfl) : CfgL C R O Γ ops rest ks := by
 subst hr
 intro a w hs hp
 unfold wpListIn
 rw [if_pos (goes_wanted hs hg)]
 exact wpIn_of_wp hnd (he a w hs hp _ _ (fun x w' hx hp' => h x hx _ w' (putO_ok hs (DstOk.lt hd)) hp'))
theorem CfgL.done {rest : List Oper} (hr : rest = []) (h : Cfg C R O Γ ks) : CfgL C R O Γ ops rest ks := by
 subst hr
 intro a w hs hp
 exact h a w hs hp
theorem Cfg.begA {id : Nat} (hk : KD.nrm 99 ks = .inl (.region id ops true) :: ks') (hm : C.P.follows .mixedOrders = true) (Os : List (Nat × Obj)) (h : CfgA C R Os O Γ ops ops.size (Array.replicate ops.size false) ks') (hnd : ops.all ndf = true := by kernel_rfl) : Cfg C R O Γ ks := by
 refine Cfg.nrm ?_
 rw [hk]
 intro a w hs hp
 exact wpIn_region_any hm (wpAnyIn_of_held (notOut C ks') hnd _ _ _ _ (h a _ hs hp.drew))
theorem CfgA.pure {Os : List (Nat × Obj)} {fuel : Nat} {l l' : Array Bool} (is : List Nat) (ds : List Dir) (kp : Option (List Nat)) (ht : takes .any ops l is = some l') (ho0 : (opsAt ops is).isSome = true)
  (hO : Os.Sublist O) (fuel' : Nat) (hf : fuel = fuel' + is.length)
  (he : ∀ S,evR C S Γ ops ((opsAt ops is).getD []) ds kp = some (Γ',nd S)) (hn : All (nd (HP C.w0 C.M R Os))) (h : CfgA C R Os O Γ' ops fuel' l' ks) : CfgA C R Os O Γ ops fuel l ks := by
 intro a w hs hp
 obtain ⟨hsel,Γ2,he2,hw⟩ := evR_some (he _)
 obtain ⟨os,ho⟩ := Option.isSome_iff_exists.1 ho0
 rw [ho,Option.getD_some] at he2
 subst hf
 exact any_pure (Q := C.Q ks) (w := w) hsel (panicOk C ks) is os ds l Γ a ht ho hs he2 hn.mem (hp.sub hO) (fun a' hs' => h a' w (hw _ _ _ hs') hp)
theorem CfgA.eff {Os : List (Nat × Obj)} {fuel fuel' : Nat} {l : Array Bool} (i : Nat) {o : Oper} (ho : ops[i]? = some o) (hr : Region.ready .any ops l = [i]) (hf : fuel = fuel' + 1) (hd : DstOk C.fn.ntmps o = true) (hg : guardV Γ ops o = guardW o)
  {ι : Type} {V : ι → Value} {O' : ι → LO} {F : ι → Prop} (he : Eff C R O Γ o ι V O' F) (hO : ∀ x,F x → Os.Sublist (O' x))
  (h : ∀ x,F x → CfgA C R Os (O' x) (putO Γ o.dst (V x)) ops fuel' (l.setIfInBounds i true) ks) : CfgA C R Os O Γ ops fuel l ks := by
 subst hf
 intro a w hs hp
 refine wpAnyH_all hr (by simp) ?_
 intro j hj
 simp only [List.mem_cons,List.not_mem_nil,or_false] at hj
 subst hj
 unfold wpOp
 simp only [ho,goes_wanted hs hg,if_true]
 exact .inl (he a w hs hp _ _ (fun x w' hx hp' => ⟨hp'.sub (hO x hx),h x hx _ w' (putO_ok hs (DstOk.lt hd)) hp'⟩))
theorem CfgA.done {Os : List (Nat × Obj)} {fuel : Nat} {l : Array Bool} (hr : Region.ready .any ops l = []) (h : Cfg C R O Γ ks) : CfgA C R Os O Γ ops fuel l ks := by
 intro a w hs hp
 exact wpAnyH_done hr (h a w hs hp) fuel
def Res (C : Cx) (R O : List (Nat × Obj)) (Γ : Env) : List ResultVar → List Value → Prop
 | [],[] => True
 | .tmp t :: rs,v :: vs => K.look Γ [] t = some v ∧ Res C R O Γ rs vs
 | .cell p ty :: rs,v :: vs => (∃ x,K.look Γ [] p = some (.pointer (some x)) ∧ ∀ w,HP C.w0 C.M R O w → (loadVar ty x).run C.P w = .ok v w) ∧ Res C R O Γ rs vs
 | _,_ => False
def resF (tm : Array Value) : ResultVar → Sem Value
 | .tmp t => pure (tm.getD t undef)
 | .cell x t => do loadVar t (← asAddr (tm.getD x undef))
theorem results_eq (fn : Func) (tm : Array Value) : Go.results fn tm = (do let vs ← fn.results.mapM (resF tm); pure (if h : vs.size = 1 then vs[0] else .tuple vs)) := by
 unfold Go.results
 congr 1
theorem Res.run {a : Act} {w : World} {n : Nat} {D : List Deferred} (hs : St n D Γ a) (hp : HP C.w0 C.M R O w) : ∀ {rs : List ResultVar} {vs : List Value},Res C R O Γ rs vs →
  (rs.mapM (resF a.tmps)).run C.P w = .ok vs w
 | [],[],_ => by simp
 | .tmp t :: rs,v :: vs,h => by
  have h1 := look_ok hs (holds_nil _) h.1
  have ih := Res.run hs hp h.2
  simp only [List.mapM_cons,resF,Sem.run_bind,Sem.run_pure,Result.andThen_ok,h1]
  rw [ih]; rfl
 | .cell p ty :: rs,v :: vs,h => by
  obtain ⟨⟨x,hx,hv⟩,h2⟩ := h
  have h1 := look_ok hs (holds_nil _) hx
  have ih := Res.run hs hp h2
  have hA : (asAddr (.pointer (some x))).run C.P w = .ok x w := rfl
  simp only [List.mapM_cons,resF,Sem.run_bind,Sem.run_pure,Result.andThen_ok,h1,hA,hv w hp]
  rw [ih]; rfl
 | [],_ :: _,h => h.elim
 | .tmp _ :: _,[],h => h.elim
 | .cell .. :: _,[],h => h.elim
def resOf : List Value → Value
 | [v] => v
 | vs => .tuple vs.toArray
theorem Res.out {a : Act} {w : World} {n : Nat} {D : List Deferred} (hs : St n D Γ a) (hp : HP C.w0 C.M R O w) {rs : List ResultVar} {vs : List Value} (hr : C.fn.results = rs.toArray) (h : Res C R O Γ rs vs) :
  (Go.results C.fn a.tmps).run C.P w = .ok (resOf vs) w := by
 have := Res.run hs hp h
 rw [results_eq,hr,List.mapM_toArray]
 simp only [Sem.run_bind,map_eq_pure_bind,this,Result.andThen_ok,Sem.run_pure]
 match vs with
 | [] => rfl
 | [v] => rfl
 | _ :: _ :: _ => simp [resOf]
theorem Cfg.ret (hk : KD.nrm 99 ks = .inl .ret :: ks') {rs : List ResultVar} (hr : C.fn.results = rs.toArray) (vs : List Value) (hv : Res C R O Γ rs vs) (hp : ∀ w,HP C.w0 C.M R O w → C.post (.returned (resOf vs)) w) (hD : C.D = [] := by rfl) : Cfg C R O Γ ks := by
 refine Cfg.nrm ?_
 rw [hk]
 intro a w hs h
 exact wpIn_ret (aft_ret ks' (C.rt hD a w _ hs.dfr (hv.out hs h hr) (hp w h)).1)
def argsΓ : Nat → List Value → Env
 | _,[] => []
 | i,v :: vs => (i,[],v) :: argsΓ (i + 1) vs
theorem argsΓ_mem {e : Nat × Ch × Value} : ∀ {i : Nat} {vs : List Value},e ∈ argsΓ i vs → e.2.1 = [] ∧ i ≤ e.1 ∧ vs[e.1 - i]? = some e.2.2
 | _,[],h => by cases h
 | i,v :: vs,h => by
  rcases List.mem_cons.1 h with rfl | h
  ·simp
  ·obtain ⟨h1,h2,h3⟩ := argsΓ_mem h
   refine ⟨h1,by omega,?_⟩
   rw [show e.1 - i = (e.1 - (i + 1)) + 1 by omega,List.getElem?_cons_succ]; exact h3
theorem enter {P : Program} {f : FuncId} {fn : Func} {c : Code} {vs : List Value} {w : World} {post : Ending → World → Prop} (M : List Nat) (R O : List (Nat × Obj)) (hf : P.funcs[f]? = some fn) (hb : fn.body = some c)
  (hn0 : Nat.ble vs.length fn.ntmps = true) (hp : HP w M R O w) (h : Cfg (Cx.plain P fn post w M) R O (argsΓ 0 vs) [.inl c]) : Calls P f vs.toArray w post := by
 have hn : vs.length ≤ fn.ntmps := Nat.le_of_ble_eq_true hn0
 refine (calls_of_wp (R := noOut post) hf hb ?_).mono (fun e w' he => he.2)
 refine (wpIn_wide (n := 0)).1 ?_
 refine h _ w ⟨by show _ = fn.ntmps; simp; omega,rfl,?_⟩ hp
 intro e he
 obtain ⟨h1,_,h3⟩ := argsΓ_mem he
 rw [h1]
 refine ⟨fun _ => ?_,fun hh => absurd (holds_nil _) hh⟩
 have hlt : e.1 < vs.length := by
  rcases Nat.lt_or_ge e.1 vs.length with hh | hh
  ·exact hh
  ·rw [Nat.sub_zero,List.getElem?_eq_none hh] at h3; cases h3
 rw [Nat.sub_zero] at h3
 rw [Array.getD_eq_getD_getElem?,Array.getElem?_append_left (by simpa using hlt)]
 simp [h3]
theorem HP.start (w : World) : HP w [] [] [] w := ⟨Ext.refl _ _,(fun _ h => by cases h),(fun _ h => by cases h),(fun _ h => by cases h),by simp,(fun _ h => by cases h)⟩
end
section
variable {C : Cx} {R O : List (Nat × Obj)} {Γ : Env} {o : Oper}
theorem Eff.of_run {ι : Type} {V : ι → Value} {O' : ι → List (Nat × Obj)} {F : ι → Prop}
  (h : ∀ a w,St C.fn.ntmps C.D Γ a → HP C.w0 C.M R O w → ∃ x w',F x ∧ (execOp a.eval o).run C.P w = .ok (.value (V x)) w' ∧ HP C.w0 C.M R (O' x) w') : Eff C R O Γ o ι V O' F := by
 intro a w hs hp Kt Q hK
 obtain ⟨x,w',hx,hr,hp'⟩ := h a w hs hp
 unfold Oper.wp
 rw [hr]
 exact hK x w' hx hp'
def opds (Γ : Env) : List Operand → Option (List Value)
 | [] => some []
 | x :: l => match opd Γ [] x,opds Γ l with
  | some v,some vs => some (v :: vs)
  | _,_ => none
theorem opds_ok {n : Nat} {D : List Deferred} {a : Act} (hs : St n D Γ a) : ∀ {l : List Operand} {vs : List Value},opds Γ l = some vs → l.map a.eval = vs
 | [],vs,h => by simp only [opds,Option.some.injEq] at h; rw [← h]; rfl
 | x :: l,vs,h => by
  unfold opds at h
  split at h
  ·rename_i v us h1 h2
   simp only [Option.some.injEq] at h
   rw [← h,List.map_cons,opd_ok hs (holds_nil _) h1,opds_ok hs h2]
  ·cases h
theorem run_callFunc {P : Program} {f : FuncId} {fn : Func} {c : Code} {args : Array Value} {w : World} (hf : P.funcs[f]? = some fn) (hnm : (fn.name == "runtime.NumGoroutine") = false) (hb : fn.body = some c) :
  (callFunc f args).run P w = .ok (.enter f args) w := by
 have h1 : ¬ fn.name = "runtime.NumGoroutine" := by simpa using hnm
 simp [callFunc,program,Sem.run,hf,h1,hb]
theorem Eff.call {f : FuncId} {fn : Func} {c : Code} {xs : List Operand} {tys : Array TypeId} (ho : o.op = .call ⟨.value (.func f),xs.toArray,tys⟩) (hf : C.P.funcs[f]? = some fn) (hnm : (fn.name == "runtime.NumGoroutine") = false) (hb : fn.body = some c)
  {vs : List Value} (hx : opds Γ xs = some vs) {ι : Type} {V : ι → Value} {O' : ι → LO} {F : ι → Prop}
  (h : ∀ w,HP C.w0 C.M R O w → Calls C.P f vs.toArray w fun e w' => ∃ x,F x ∧ e = .returned (V x) ∧ HP C.w0 C.M R (O' x) w') : Eff C R O Γ o ι V O' F := by
 intro a w hs hp Kt Q hK
 have hargs := opds_ok hs hx
 have hrun : (execOp a.eval o).run C.P w = .ok (.enter f vs.toArray) w := by
  simp [execOp,ho,resolve,Deferred.ofValue,Act.eval,invoke,hargs,run_callFunc hf hnm hb]
 unfold Oper.wp
 rw [hrun]
 refine (h w hp).mono ?_
 rintro e w' ⟨x,hx,rfl,hp'⟩
 exact hK x w' hx hp'
theorem Eff.box {t : TypeId} {x : Operand} {v : Value} (ho : o.op = .box t x) (hx : opd Γ [] x = some v) :
  Eff C R O Γ o Nat (fun b => .pointer (some ⟨b,0,none⟩)) (fun b => (b,.cells v.cells t (0,0)) :: O) (fun b => C.w0.heap.size ≤ b ∧ b ∉ O.map (·.1)) := by
 refine Eff.of_run fun a w hs hp => ⟨w.heap.size,w.alloc (.cells v.cells t (0,0)),⟨hp.ext.size,hp.fresh (Nat.le_refl _)⟩,?_,hp.alloc _⟩
 simp [execOp,ho,Instr.box,opd_ok hs (holds_nil _) hx,newVar,newRow,newObj,Sem.run]
def one : Value → Bool
 | .agg _ | .tuple _ => false
 | _ => true
end
section
variable {C : Cx} {R O : List (Nat × Obj)} {Γ Γ' : Env} {ks ks' : List KI} {ops : Array Oper}
def CfgI (C : Cx) (R Os O : List (Nat × Obj)) (Γ : Env) (ops : Array Oper) (fuel : Nat) (l : Array Bool) (i : Nat) (ks : List KI) : Prop :=
 ∀ a w,St C.fn.ntmps C.D Γ a → HP C.w0 C.M R O w → wpOp C.P ops (C.Q ks) i (fun a' w' => HP C.w0 C.M R Os w' ∧ wpAnyH C.P .any ops (C.Q ks) (HP C.w0 C.M R Os) fuel (l.setIfInBounds i true) a' w') a w
theorem Eff.callA {o : Oper} {f : FuncId} {fn : Func} {c : Code} {xs : List Operand} {tys : Array TypeId} {vs : List Value} (v : Value) (ho : o.op = .call ⟨.value (.func f),xs.toArray,tys⟩) (hf : C.P.funcs[f]? = some fn)
  (hnm : (fn.name == "runtime.NumGoroutine") = false) (hb : fn.body = some c) (hx : opds Γ xs = some vs)
  (h : ∀ w,HP C.w0 C.M R O w → Calls C.P f vs.toArray w fun e w' => e = .returned v ∧ Ext [] w w') : Eff C R O Γ o Unit (fun _ => v) (fun _ => O) (fun _ => True) :=
 Eff.call ho hf hnm hb hx fun w hp => (h w hp).mono fun _ _ hh => ⟨(),trivial,hh.1,hp.calm hh.2⟩
end
section
variable {w0 w w' : World} {M : List Nat} {R O : List (Nat × Obj)} {P : Program}
theorem HP.ofHas {w : World} {L : List (Nat × Obj)} (h : Has w L) : HP w [] L [] w :=
 ⟨Ext.refl _ _,h,fun e he => ⟨lt_of_get (h e he),by simp⟩,(fun _ h => by cases h),by simp,(fun _ h => by cases h)⟩
theorem HP.has {w0 w : World} {M : List Nat} {L : List (Nat × Obj)} (h : HP w0 M R O w) (hL : ∀ e ∈ L,e ∈ O) : Has w L := fun e he => h.own e (hL e he)
end
theorem Eff.callE {C : Cx} {R O : List (Nat × Obj)} {Γ : Env} {o : Oper} {f : FuncId} {fn : Func} {xs : List Operand} {tys : Array TypeId} {vs : List Value} (v : Value) {e : Array Value → Sem Value} (ho : o.op = .call ⟨.value (.func f),xs.toArray,tys⟩) (hf : C.P.funcs[f]? = some fn)
  (hnm : (fn.name == "runtime.NumGoroutine") = false) (hb : fn.body.isNone = true) (h1 : (Extern.findNext fn).isNone = true) (h2 : Extern.find fn = some e) (hx : opds Γ xs = some vs)
  (h : ∀ w,HP C.w0 C.M R O w → (e vs.toArray).run C.P w = .ok v w) : Eff C R O Γ o Unit (fun _ => v) (fun _ => O) (fun _ => True) :=
 Eff.of_run fun a w hs hp => ⟨(),w,trivial,by
  have hargs := opds_ok hs hx
  have hc := run_extern hf hnm hb h1 h2 (h w hp)
  simp [execOp,ho,resolve,Deferred.ofValue,Act.eval,invoke,hargs,hc],hp⟩
end KD
end Go.Proofs.YtbeegepcdglcaaaGreatDoor
namespace Go.Proofs.YtbeegepcdglcaaaGreatDoor
namespace KD
open K
set_option linter.unusedVariables false
theorem compare32 {P : Program} {w : World} {x y : Nat} {t t' : TypeId} {fr fr' : Nat × Nat} {a b : List UInt8} (ha : a.length = 32) (hb : b.length = 32) (hx : w.heap[x]? = some (.cells (bv a) t fr)) (hy : w.heap[y]? = some (.cells (bv b) t' fr')) :
  (Extern.BytealgCompare.compare #[.slice (some ⟨x,0,none⟩) 32 32,.slice (some ⟨y,0,none⟩) 32 32]).run P w = .ok (.int .i64 (cmpL a b)) w := by
 have := run_compare (P := P) (c := 32) (c' := 32) hx hy
 rw [ha,hb] at this; exact this
def cfL (a b : List UInt8) : Int := if cmpL a b < 0 then -1 else if cmpL b a < 0 then 1 else 0
set_option maxRecDepth 100000 in
theorem bytesCompare (x y : Nat) (a b : List UInt8) (w : World) (ha : a.length = 32) (hb : b.length = 32) (hR : Has w [(y,.cells (bv b) 36 (0,0)),(x,.cells (bv a) 36 (0,0))]) :
  Calls Tryz.prog 71 #[.slice (some ⟨x,0,none⟩) 32 32,.slice (some ⟨y,0,none⟩) 32 32] w fun e w' => e = .returned (.int .i64 (cmpL a b)) ∧ Ext [] w w' := by
 refine enter (vs := [.slice (some ⟨x,0,none⟩) 32 32,.slice (some ⟨y,0,none⟩) 32 32]) [] [(y,.cells (bv b) 36 (0,0)),(x,.cells (bv a) 36 (0,0))] [] Tryz.func71 rfl kr (HP.ofHas hR) ?_
 refine Cfg.reg rfl [0,1] [] (Γ' := [(0,[],.slice (some ⟨x,0,none⟩) 32 32),(1,[],.slice (some ⟨y,0,none⟩) 32 32)]) (nd := (fun _ => [])) (fun _ => kr) trivial ?_
 refine Cfg.begL rfl ?_
 refine CfgL.pure 2 [] (some [5,6]) (Γ' := [(6,[],.slice (some ⟨y,0,none⟩) 32 32),(5,[],.slice (some ⟨x,0,none⟩) 32 32)]) (nd := (fun _ => [])) kr (fun _ => kr) trivial ?_
 refine CfgL.eff (o := _) rfl kr kr (Eff.callE (vs := [.slice (some ⟨x,0,none⟩) 32 32,.slice (some ⟨y,0,none⟩) 32 32]) (.int .i64 (cmpL a b)) (e := Extern.BytealgCompare.compare) rfl Tryz.func99 rfl rfl kr kr kr (fun w1 h => compare32 ha hb (h.ro _ (List.mem_cons_of_mem _ mH)) (h.ro _ mH))) ?_
 rintro ⟨⟩ -
 refine CfgL.pure 1 [] (some [4]) (Γ' := [(4,[],.int .i64 (cmpL a b))]) (nd := (fun _ => [])) kr (fun _ => kr) trivial ?_
 refine CfgL.done rfl ?_
 refine Cfg.ret rfl (rs := [.tmp 4]) rfl [.int .i64 (cmpL a b)] ⟨kr,trivial⟩ (fun w1 hp => ?_)
 exact ⟨rfl,hp.ext⟩
set_option maxRecDepth 100000 in
theorem shaLess (a b : List UInt8) (w : World) (ha : a.length = 32) (hb : b.length = 32) :
  Calls Tryz.prog 48 #[.agg (bv a),.agg (bv b)] w fun e w' => e = .returned (.bool (decide (cmpL a b < 0))) ∧ Ext [] w w' := by
 refine enter (vs := [.agg (bv a),.agg (bv b)]) [] [] [] Tryz.func48 rfl kr (HP.start w) ?_
 refine Cfg.begL rfl ?_
 refine CfgL.eff (o := _) rfl kr kr (Eff.box (v := .agg (bv a)) rfl kr) ?_
 rintro x ⟨hx,nx⟩
 refine CfgL.eff (o := _) rfl kr kr (Eff.box (v := .agg (bv b)) rfl kr) ?_
 rintro y ⟨hy,ny⟩
 refine CfgL.pure 1 [] (some [2,3]) (Γ' := [(3,[],pT y),(2,[],pT x)]) (nd := (fun _ => [])) kr (fun _ => kr) trivial ?_
 refine CfgL.done rfl ?_
 refine Cfg.begA rfl kr [(y,.cells (bv b) 36 (0,0)),(x,.cells (bv a) 36 (0,0))] ?_
 refine CfgA.pure [0,1] [] (some [5,6]) (l' := (tF 2 3)) kr kr (.cons_cons _ (.cons_cons _ .slnil)) 3 rfl (Γ' := [(6,[],.slice (some ⟨y,0,none⟩) 32 32),(5,[],.slice (some ⟨x,0,none⟩) 32 32)]) (nd := (fun _ => [(32 ≤ 32),(32 ≤ 32)])) (fun _ => kr) ⟨om,om,trivial⟩ ?_
 refine CfgA.eff 2 (o := _) rfl kr (fuel' := 2) rfl kr kr (Eff.callA (vs := [.slice (some ⟨x,0,none⟩) 32 32,.slice (some ⟨y,0,none⟩) 32 32]) (.int .i64 (cmpL a b)) rfl Tryz.func71 rfl rfl kr (fun w1 h => bytesCompare x y a b w1 ha hb (h.has (fun e he => he)))) (fun _ _ => (.cons_cons _ (.cons_cons _ .slnil))) ?_
 rintro ⟨⟩ -
 refine CfgA.pure [3,4] [] (some [4]) (l' := (tF 5 0)) kr kr (.cons_cons _ (.cons_cons _ .slnil)) 0 rfl (Γ' := [(4,[],.bool (decide ((cmpL a b) < (0 : Int))))]) (nd := (fun _ => [])) (fun _ => kr) trivial ?_
 refine CfgA.done kr ?_
 refine Cfg.ret rfl (rs := [.tmp 4]) rfl [.bool (decide ((cmpL a b) < (0 : Int)))] ⟨kr,trivial⟩ (fun w1 hp => ?_)
 exact ⟨rfl,hp.ext⟩
set_option maxRecDepth 100000 in
theorem pkCmp (a b : En) (w : World) (ha : EnL a) (hb : EnL b) :
  Calls Tryz.prog 47 #[.agg (enc a).toArray,.agg (enc b).toArray] w fun e w' => e = .returned (.int .i64 (cfL a.id b.id)) ∧ Ext [] w w' := by
 refine enter (vs := [.agg (enc a).toArray,.agg (enc b).toArray]) [] [] [] Tryz.func47 rfl kr (HP.start w) ?_
 refine Cfg.begL rfl ?_
 refine CfgL.eff (o := _) rfl kr kr (Eff.box (v := .agg (enc a).toArray) rfl kr) ?_
 rintro x ⟨hx,nx⟩
 refine CfgL.eff (o := _) rfl kr kr (Eff.box (v := .agg (enc b).toArray) rfl kr) ?_
 rintro y ⟨hy,ny⟩
 refine CfgL.pure 1 [] (some [2,3]) (Γ' := [(3,[],pT y),(2,[],pT x)]) (nd := (fun _ => [])) kr (fun _ => kr) trivial ?_
 refine CfgL.done rfl ?_
 refine Cfg.begL rfl ?_
 refine CfgL.pure 4 [dZ,(dS (.agg (bv a.id))),dZ,(dS (.agg (bv b.id)))] (some [2,3,7,9]) (Γ' := [(9,[],.agg (bv b.id)),(7,[],.agg (bv a.id)),(3,[],pT y),(2,[],pT x)]) (nd := (fun S => [(∀ w1,S w1 → (loadVar 36 ⟨x,0,none⟩).run Tryz.prog w1 = .ok (.agg (bv a.id)) w1),(∀ w1,S w1 → (loadVar 36 ⟨y,0,none⟩).run Tryz.prog w1 = .ok (.agg (bv b.id)) w1)])) kr (fun _ => kr) ⟨(fun w1 h => load_list (vs := dgc a.id) Tryz.underlying36 rfl kr (dgc_len ha.id) (fun j v hj => h.ocell 1 rfl (by rw [List.getElem?_toArray]; exact enc_id hj))),(fun w1 h => load_list (vs := dgc b.id) Tryz.underlying36 rfl kr (dgc_len hb.id) (fun j v hj => h.ocell 0 rfl (by rw [List.getElem?_toArray]; exact enc_id hj))),trivial⟩ ?_
 refine CfgL.eff (o := _) rfl kr kr (Eff.callA (vs := [.agg (bv a.id),.agg (bv b.id)]) (.bool (decide (cmpL a.id b.id < 0))) rfl Tryz.func48 rfl rfl kr (fun w1 h => shaLess a.id b.id w1 ha.id hb.id)) ?_
 rintro ⟨⟩ -
 refine CfgL.pure 1 [] (some [2,3,5]) (Γ' := [(5,[],.bool (decide (cmpL a.id b.id < 0))),(3,[],pT y),(2,[],pT x)]) (nd := (fun _ => [])) kr (fun _ => kr) trivial ?_
 refine CfgL.done rfl ?_
 refine Cfg.cond rfl (b := (decide (cmpL a.id b.id < 0))) kr (fun c1r => ?_) (fun c1r => ?_)
 ·have c1 : ((decide (cmpL a.id b.id < 0)) = true) := c1r
  refine Cfg.reg rfl [4] [] (Γ' := [(4,[],.int .i64 (-1))]) (nd := (fun _ => [])) (fun _ => kr) trivial ?_
  refine Cfg.ret rfl (rs := [.tmp 4]) rfl [.int .i64 (-1)] ⟨kr,trivial⟩ (fun w1 hp => ?_)
  have q1 := dT c1
  exact ⟨by rw [cfL,if_pos q1]; rfl,hp.ext⟩
 ·have c1 : ((decide (cmpL a.id b.id < 0)) = false) := c1r
  refine Cfg.begL rfl ?_
  refine CfgL.pure 4 [dZ,(dS (.agg (bv b.id))),dZ,(dS (.agg (bv a.id)))] (some [13,15]) (Γ' := [(15,[],.agg (bv a.id)),(13,[],.agg (bv b.id))]) (nd := (fun S => [(∀ w1,S w1 → (loadVar 36 ⟨y,0,none⟩).run Tryz.prog w1 = .ok (.agg (bv b.id)) w1),(∀ w1,S w1 → (loadVar 36 ⟨x,0,none⟩).run Tryz.prog w1 = .ok (.agg (bv a.id)) w1)])) kr (fun _ => kr) ⟨(fun w1 h => load_list (vs := dgc b.id) Tryz.underlying36 rfl kr (dgc_len hb.id) (fun j v hj => h.ocell 0 rfl (by rw [List.getElem?_toArray]; exact enc_id hj))),(fun w1 h => load_list (vs := dgc a.id) Tryz.underlying36 rfl kr (dgc_len ha.id) (fun j v hj => h.ocell 1 rfl (by rw [List.getElem?_toArray]; exact enc_id hj))),trivial⟩ ?_
  refine CfgL.eff (o := _) rfl kr kr (Eff.callA (vs := [.agg (bv b.id),.agg (bv a.id)]) (.bool (decide (cmpL b.id a.id < 0))) rfl Tryz.func48 rfl rfl kr (fun w1 h => shaLess b.id a.id w1 hb.id ha.id)) ?_
  rintro ⟨⟩ -
  refine CfgL.pure 1 [] (some [11]) (Γ' := [(11,[],.bool (decide (cmpL b.id a.id < 0)))]) (nd := (fun _ => [])) kr (fun _ => kr) trivial ?_
  refine CfgL.done rfl ?_
  refine Cfg.cond rfl (b := (decide (cmpL b.id a.id < 0))) kr (fun c2r => ?_) (fun c2r => ?_)
  ·have c2 : ((decide (cmpL b.id a.id < 0)) = true) := c2r
   refine Cfg.reg rfl [4] [] (Γ' := [(4,[],.int .i64 1)]) (nd := (fun _ => [])) (fun _ => kr) trivial ?_
   refine Cfg.ret rfl (rs := [.tmp 4]) rfl [.int .i64 1] ⟨kr,trivial⟩ (fun w1 hp => ?_)
   have q1 := dF c1
   have q2 := dT c2
   exact ⟨by rw [cfL,if_neg q1,if_pos q2]; rfl,hp.ext⟩
  ·have c2 : ((decide (cmpL b.id a.id < 0)) = false) := c2r
   refine Cfg.reg rfl [4] [] (Γ' := [(4,[],.int .i64 0)]) (nd := (fun _ => [])) (fun _ => kr) trivial ?_
   refine Cfg.ret rfl (rs := [.tmp 4]) rfl [.int .i64 0] ⟨kr,trivial⟩ (fun w1 hp => ?_)
   have q1 := dF c1
   have q2 := dF c2
   exact ⟨by rw [cfL,if_neg q1,if_neg q2]; rfl,hp.ext⟩
end KD
end Go.Proofs.YtbeegepcdglcaaaGreatDoor
