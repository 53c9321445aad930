/- Texts on which the proof of this claim stands: Sha6, ShaM, ShaK, Xb. -/
import Derived.Test.YtdjpokckamlccaaGreatDoorRows
import Derived.Test.YtdjpokckamlccaaGreatDoorP1
import Derived.Test.YtdjpokckamlccaaGreatDoorP6
import Derived.Test.YtdjpokckamlccaaGreatDoorP3
import Derived.Test.YtdjpokckamlccaaGreatDoorChecked
import Derived.Test.YtdjpokckamlccaaGreatDoorP7
import Derived.Test.YtdjpokckamlccaaGreatDoorP5
namespace Go.Proofs.YtdjpokckamlccaaGreatDoor
open K
set_option linter.unusedVariables false
theorem le_pow {b n : Nat} (h : n < 2 ^ b) : (n : Int) ≤ ((2 ^ b - 1 : Nat) : Int) := by omega
theorem tn_lt {x b : Nat} (h : x < 2 ^ b) : ((x : Int)).toNat < 2 ^ b := by rw [Int.toNat_natCast]; exact h
/-- A rotation: a = 2 ^ s, b = 2 ^ (32 - s). -/
def rotl (x a b : Nat) : Nat := (x * a % 4294967296) ||| (x / b)
theorem rotl_lt {x a b : Nat} (h : x < 2 ^ 32) : rotl x a b < 2 ^ 32 :=
  Nat.or_lt_two_pow (Nat.mod_lt _ (by decide)) (Nat.lt_of_le_of_lt (Nat.div_le_self _ _) h)
set_option maxRecDepth 100000 in
theorem rot25 (x : Nat) (w : World) (hx : x < 2 ^ 32) :
    Calls Tryz.prog 177 #[.int .u32 (x : Int), .int .i64 (-7)] w fun e w' => e = .returned (.int .u32 (rotl x 33554432 128 : Int)) ∧ Ext [] w w' := by
  refine enter (vs := [.int .u32 (x : Int), .int .i64 (-7)]) [] [] [] Tryz.func177 rfl (by kernel_rfl) (HP.start w) ?_
  refine Cfg.reg rfl [0, 1] [] (Γ' := [(0, [], .int .u32 (x : Int)), (1, [], .int .i64 (-7))]) (nd := (fun _ => [])) (fun _ => by kernel_rfl) trivial ?_
  refine Cfg.reg rfl [0, 5] [] (Γ' := [(5, [], .int .u64 25), (0, [], .int .u32 (x : Int))]) (nd := (fun _ => [((0 ≤ (18446744073709551609 : Int) ∧ (18446744073709551609 : Int) ≤ 18446744073709551615) ∧ 0 ≤ (31 : Int) ∧ (31 : Int) ≤ 18446744073709551615)])) (fun _ => by kernel_rfl) ⟨(by omega), trivial⟩ ?_
  refine Cfg.reg rfl [4] [] (Γ' := [(4, [], .int .u32 ((((((x : Int) * 33554432) % 4294967296)).toNat ||| (((x : Int) / 128)).toNat : Nat) : Int))]) (nd := (fun _ => [(0 ≤ (25 : Int) ∧ 25 ≤ 32), (0 ≤ (7 : Int) ∧ 7 ≤ 32), ((0 ≤ (((x : Int) * 33554432) % 4294967296) ∧ (((x : Int) * 33554432) % 4294967296) ≤ 4294967295) ∧ 0 ≤ ((x : Int) / 128) ∧ ((x : Int) / 128) ≤ 4294967295)])) (fun _ => by kernel_rfl) ⟨(by omega), (by omega), (by omega), trivial⟩ ?_
  refine Cfg.ret rfl (rs := [.tmp 4]) rfl [.int .u32 ((((((x : Int) * 33554432) % 4294967296)).toNat ||| (((x : Int) / 128)).toNat : Nat) : Int)] ⟨by kernel_rfl, trivial⟩ (fun w1 hp => ?_)
  refine ⟨?_, hp.ext⟩
  unfold rotl
  rw [show x * 33554432 % 4294967296 = ((x : Int) * 33554432 % 4294967296).toNat by omega, show x / 128 = ((x : Int) / 128).toNat by omega]
  rfl
set_option maxRecDepth 100000 in
theorem rot14 (x : Nat) (w : World) (hx : x < 2 ^ 32) :
    Calls Tryz.prog 177 #[.int .u32 (x : Int), .int .i64 (-18)] w fun e w' => e = .returned (.int .u32 (rotl x 16384 262144 : Int)) ∧ Ext [] w w' := by
  refine enter (vs := [.int .u32 (x : Int), .int .i64 (-18)]) [] [] [] Tryz.func177 rfl (by kernel_rfl) (HP.start w) ?_
  refine Cfg.reg rfl [0, 1] [] (Γ' := [(0, [], .int .u32 (x : Int)), (1, [], .int .i64 (-18))]) (nd := (fun _ => [])) (fun _ => by kernel_rfl) trivial ?_
  refine Cfg.reg rfl [0, 5] [] (Γ' := [(5, [], .int .u64 14), (0, [], .int .u32 (x : Int))]) (nd := (fun _ => [((0 ≤ (18446744073709551598 : Int) ∧ (18446744073709551598 : Int) ≤ 18446744073709551615) ∧ 0 ≤ (31 : Int) ∧ (31 : Int) ≤ 18446744073709551615)])) (fun _ => by kernel_rfl) ⟨(by omega), trivial⟩ ?_
  refine Cfg.reg rfl [4] [] (Γ' := [(4, [], .int .u32 ((((((x : Int) * 16384) % 4294967296)).toNat ||| (((x : Int) / 262144)).toNat : Nat) : Int))]) (nd := (fun _ => [(0 ≤ (14 : Int) ∧ 14 ≤ 32), (0 ≤ (18 : Int) ∧ 18 ≤ 32), ((0 ≤ (((x : Int) * 16384) % 4294967296) ∧ (((x : Int) * 16384) % 4294967296) ≤ 4294967295) ∧ 0 ≤ ((x : Int) / 262144) ∧ ((x : Int) / 262144) ≤ 4294967295)])) (fun _ => by kernel_rfl) ⟨(by omega), (by omega), (by omega), trivial⟩ ?_
  refine Cfg.ret rfl (rs := [.tmp 4]) rfl [.int .u32 ((((((x : Int) * 16384) % 4294967296)).toNat ||| (((x : Int) / 262144)).toNat : Nat) : Int)] ⟨by kernel_rfl, trivial⟩ (fun w1 hp => ?_)
  refine ⟨?_, hp.ext⟩
  unfold rotl
  rw [show x * 16384 % 4294967296 = ((x : Int) * 16384 % 4294967296).toNat by omega, show x / 262144 = ((x : Int) / 262144).toNat by omega]
  rfl
set_option maxRecDepth 100000 in
theorem rot15 (x : Nat) (w : World) (hx : x < 2 ^ 32) :
    Calls Tryz.prog 177 #[.int .u32 (x : Int), .int .i64 (-17)] w fun e w' => e = .returned (.int .u32 (rotl x 32768 131072 : Int)) ∧ Ext [] w w' := by
  refine enter (vs := [.int .u32 (x : Int), .int .i64 (-17)]) [] [] [] Tryz.func177 rfl (by kernel_rfl) (HP.start w) ?_
  refine Cfg.reg rfl [0, 1] [] (Γ' := [(0, [], .int .u32 (x : Int)), (1, [], .int .i64 (-17))]) (nd := (fun _ => [])) (fun _ => by kernel_rfl) trivial ?_
  refine Cfg.reg rfl [0, 5] [] (Γ' := [(5, [], .int .u64 15), (0, [], .int .u32 (x : Int))]) (nd := (fun _ => [((0 ≤ (18446744073709551599 : Int) ∧ (18446744073709551599 : Int) ≤ 18446744073709551615) ∧ 0 ≤ (31 : Int) ∧ (31 : Int) ≤ 18446744073709551615)])) (fun _ => by kernel_rfl) ⟨(by omega), trivial⟩ ?_
  refine Cfg.reg rfl [4] [] (Γ' := [(4, [], .int .u32 ((((((x : Int) * 32768) % 4294967296)).toNat ||| (((x : Int) / 131072)).toNat : Nat) : Int))]) (nd := (fun _ => [(0 ≤ (15 : Int) ∧ 15 ≤ 32), (0 ≤ (17 : Int) ∧ 17 ≤ 32), ((0 ≤ (((x : Int) * 32768) % 4294967296) ∧ (((x : Int) * 32768) % 4294967296) ≤ 4294967295) ∧ 0 ≤ ((x : Int) / 131072) ∧ ((x : Int) / 131072) ≤ 4294967295)])) (fun _ => by kernel_rfl) ⟨(by omega), (by omega), (by omega), trivial⟩ ?_
  refine Cfg.ret rfl (rs := [.tmp 4]) rfl [.int .u32 ((((((x : Int) * 32768) % 4294967296)).toNat ||| (((x : Int) / 131072)).toNat : Nat) : Int)] ⟨by kernel_rfl, trivial⟩ (fun w1 hp => ?_)
  refine ⟨?_, hp.ext⟩
  unfold rotl
  rw [show x * 32768 % 4294967296 = ((x : Int) * 32768 % 4294967296).toNat by omega, show x / 131072 = ((x : Int) / 131072).toNat by omega]
  rfl
set_option maxRecDepth 100000 in
theorem rot13 (x : Nat) (w : World) (hx : x < 2 ^ 32) :
    Calls Tryz.prog 177 #[.int .u32 (x : Int), .int .i64 (-19)] w fun e w' => e = .returned (.int .u32 (rotl x 8192 524288 : Int)) ∧ Ext [] w w' := by
  refine enter (vs := [.int .u32 (x : Int), .int .i64 (-19)]) [] [] [] Tryz.func177 rfl (by kernel_rfl) (HP.start w) ?_
  refine Cfg.reg rfl [0, 1] [] (Γ' := [(0, [], .int .u32 (x : Int)), (1, [], .int .i64 (-19))]) (nd := (fun _ => [])) (fun _ => by kernel_rfl) trivial ?_
  refine Cfg.reg rfl [0, 5] [] (Γ' := [(5, [], .int .u64 13), (0, [], .int .u32 (x : Int))]) (nd := (fun _ => [((0 ≤ (18446744073709551597 : Int) ∧ (18446744073709551597 : Int) ≤ 18446744073709551615) ∧ 0 ≤ (31 : Int) ∧ (31 : Int) ≤ 18446744073709551615)])) (fun _ => by kernel_rfl) ⟨(by omega), trivial⟩ ?_
  refine Cfg.reg rfl [4] [] (Γ' := [(4, [], .int .u32 ((((((x : Int) * 8192) % 4294967296)).toNat ||| (((x : Int) / 524288)).toNat : Nat) : Int))]) (nd := (fun _ => [(0 ≤ (13 : Int) ∧ 13 ≤ 32), (0 ≤ (19 : Int) ∧ 19 ≤ 32), ((0 ≤ (((x : Int) * 8192) % 4294967296) ∧ (((x : Int) * 8192) % 4294967296) ≤ 4294967295) ∧ 0 ≤ ((x : Int) / 524288) ∧ ((x : Int) / 524288) ≤ 4294967295)])) (fun _ => by kernel_rfl) ⟨(by omega), (by omega), (by omega), trivial⟩ ?_
  refine Cfg.ret rfl (rs := [.tmp 4]) rfl [.int .u32 ((((((x : Int) * 8192) % 4294967296)).toNat ||| (((x : Int) / 524288)).toNat : Nat) : Int)] ⟨by kernel_rfl, trivial⟩ (fun w1 hp => ?_)
  refine ⟨?_, hp.ext⟩
  unfold rotl
  rw [show x * 8192 % 4294967296 = ((x : Int) * 8192 % 4294967296).toNat by omega, show x / 524288 = ((x : Int) / 524288).toNat by omega]
  rfl
set_option maxRecDepth 100000 in
theorem rot26 (x : Nat) (w : World) (hx : x < 2 ^ 32) :
    Calls Tryz.prog 177 #[.int .u32 (x : Int), .int .i64 (-6)] w fun e w' => e = .returned (.int .u32 (rotl x 67108864 64 : Int)) ∧ Ext [] w w' := by
  refine enter (vs := [.int .u32 (x : Int), .int .i64 (-6)]) [] [] [] Tryz.func177 rfl (by kernel_rfl) (HP.start w) ?_
  refine Cfg.reg rfl [0, 1] [] (Γ' := [(0, [], .int .u32 (x : Int)), (1, [], .int .i64 (-6))]) (nd := (fun _ => [])) (fun _ => by kernel_rfl) trivial ?_
  refine Cfg.reg rfl [0, 5] [] (Γ' := [(5, [], .int .u64 26), (0, [], .int .u32 (x : Int))]) (nd := (fun _ => [((0 ≤ (18446744073709551610 : Int) ∧ (18446744073709551610 : Int) ≤ 18446744073709551615) ∧ 0 ≤ (31 : Int) ∧ (31 : Int) ≤ 18446744073709551615)])) (fun _ => by kernel_rfl) ⟨(by omega), trivial⟩ ?_
  refine Cfg.reg rfl [4] [] (Γ' := [(4, [], .int .u32 ((((((x : Int) * 67108864) % 4294967296)).toNat ||| (((x : Int) / 64)).toNat : Nat) : Int))]) (nd := (fun _ => [(0 ≤ (26 : Int) ∧ 26 ≤ 32), (0 ≤ (6 : Int) ∧ 6 ≤ 32), ((0 ≤ (((x : Int) * 67108864) % 4294967296) ∧ (((x : Int) * 67108864) % 4294967296) ≤ 4294967295) ∧ 0 ≤ ((x : Int) / 64) ∧ ((x : Int) / 64) ≤ 4294967295)])) (fun _ => by kernel_rfl) ⟨(by omega), (by omega), (by omega), trivial⟩ ?_
  refine Cfg.ret rfl (rs := [.tmp 4]) rfl [.int .u32 ((((((x : Int) * 67108864) % 4294967296)).toNat ||| (((x : Int) / 64)).toNat : Nat) : Int)] ⟨by kernel_rfl, trivial⟩ (fun w1 hp => ?_)
  refine ⟨?_, hp.ext⟩
  unfold rotl
  rw [show x * 67108864 % 4294967296 = ((x : Int) * 67108864 % 4294967296).toNat by omega, show x / 64 = ((x : Int) / 64).toNat by omega]
  rfl
set_option maxRecDepth 100000 in
theorem rot21 (x : Nat) (w : World) (hx : x < 2 ^ 32) :
    Calls Tryz.prog 177 #[.int .u32 (x : Int), .int .i64 (-11)] w fun e w' => e = .returned (.int .u32 (rotl x 2097152 2048 : Int)) ∧ Ext [] w w' := by
  refine enter (vs := [.int .u32 (x : Int), .int .i64 (-11)]) [] [] [] Tryz.func177 rfl (by kernel_rfl) (HP.start w) ?_
  refine Cfg.reg rfl [0, 1] [] (Γ' := [(0, [], .int .u32 (x : Int)), (1, [], .int .i64 (-11))]) (nd := (fun _ => [])) (fun _ => by kernel_rfl) trivial ?_
  refine Cfg.reg rfl [0, 5] [] (Γ' := [(5, [], .int .u64 21), (0, [], .int .u32 (x : Int))]) (nd := (fun _ => [((0 ≤ (18446744073709551605 : Int) ∧ (18446744073709551605 : Int) ≤ 18446744073709551615) ∧ 0 ≤ (31 : Int) ∧ (31 : Int) ≤ 18446744073709551615)])) (fun _ => by kernel_rfl) ⟨(by omega), trivial⟩ ?_
  refine Cfg.reg rfl [4] [] (Γ' := [(4, [], .int .u32 ((((((x : Int) * 2097152) % 4294967296)).toNat ||| (((x : Int) / 2048)).toNat : Nat) : Int))]) (nd := (fun _ => [(0 ≤ (21 : Int) ∧ 21 ≤ 32), (0 ≤ (11 : Int) ∧ 11 ≤ 32), ((0 ≤ (((x : Int) * 2097152) % 4294967296) ∧ (((x : Int) * 2097152) % 4294967296) ≤ 4294967295) ∧ 0 ≤ ((x : Int) / 2048) ∧ ((x : Int) / 2048) ≤ 4294967295)])) (fun _ => by kernel_rfl) ⟨(by omega), (by omega), (by omega), trivial⟩ ?_
  refine Cfg.ret rfl (rs := [.tmp 4]) rfl [.int .u32 ((((((x : Int) * 2097152) % 4294967296)).toNat ||| (((x : Int) / 2048)).toNat : Nat) : Int)] ⟨by kernel_rfl, trivial⟩ (fun w1 hp => ?_)
  refine ⟨?_, hp.ext⟩
  unfold rotl
  rw [show x * 2097152 % 4294967296 = ((x : Int) * 2097152 % 4294967296).toNat by omega, show x / 2048 = ((x : Int) / 2048).toNat by omega]
  rfl
set_option maxRecDepth 100000 in
theorem rot7 (x : Nat) (w : World) (hx : x < 2 ^ 32) :
    Calls Tryz.prog 177 #[.int .u32 (x : Int), .int .i64 (-25)] w fun e w' => e = .returned (.int .u32 (rotl x 128 33554432 : Int)) ∧ Ext [] w w' := by
  refine enter (vs := [.int .u32 (x : Int), .int .i64 (-25)]) [] [] [] Tryz.func177 rfl (by kernel_rfl) (HP.start w) ?_
  refine Cfg.reg rfl [0, 1] [] (Γ' := [(0, [], .int .u32 (x : Int)), (1, [], .int .i64 (-25))]) (nd := (fun _ => [])) (fun _ => by kernel_rfl) trivial ?_
  refine Cfg.reg rfl [0, 5] [] (Γ' := [(5, [], .int .u64 7), (0, [], .int .u32 (x : Int))]) (nd := (fun _ => [((0 ≤ (18446744073709551591 : Int) ∧ (18446744073709551591 : Int) ≤ 18446744073709551615) ∧ 0 ≤ (31 : Int) ∧ (31 : Int) ≤ 18446744073709551615)])) (fun _ => by kernel_rfl) ⟨(by omega), trivial⟩ ?_
  refine Cfg.reg rfl [4] [] (Γ' := [(4, [], .int .u32 ((((((x : Int) * 128) % 4294967296)).toNat ||| (((x : Int) / 33554432)).toNat : Nat) : Int))]) (nd := (fun _ => [(0 ≤ (7 : Int) ∧ 7 ≤ 32), (0 ≤ (25 : Int) ∧ 25 ≤ 32), ((0 ≤ (((x : Int) * 128) % 4294967296) ∧ (((x : Int) * 128) % 4294967296) ≤ 4294967295) ∧ 0 ≤ ((x : Int) / 33554432) ∧ ((x : Int) / 33554432) ≤ 4294967295)])) (fun _ => by kernel_rfl) ⟨(by omega), (by omega), (by omega), trivial⟩ ?_
  refine Cfg.ret rfl (rs := [.tmp 4]) rfl [.int .u32 ((((((x : Int) * 128) % 4294967296)).toNat ||| (((x : Int) / 33554432)).toNat : Nat) : Int)] ⟨by kernel_rfl, trivial⟩ (fun w1 hp => ?_)
  refine ⟨?_, hp.ext⟩
  unfold rotl
  rw [show x * 128 % 4294967296 = ((x : Int) * 128 % 4294967296).toNat by omega, show x / 33554432 = ((x : Int) / 33554432).toNat by omega]
  rfl
set_option maxRecDepth 100000 in
theorem rot30 (x : Nat) (w : World) (hx : x < 2 ^ 32) :
    Calls Tryz.prog 177 #[.int .u32 (x : Int), .int .i64 (-2)] w fun e w' => e = .returned (.int .u32 (rotl x 1073741824 4 : Int)) ∧ Ext [] w w' := by
  refine enter (vs := [.int .u32 (x : Int), .int .i64 (-2)]) [] [] [] Tryz.func177 rfl (by kernel_rfl) (HP.start w) ?_
  refine Cfg.reg rfl [0, 1] [] (Γ' := [(0, [], .int .u32 (x : Int)), (1, [], .int .i64 (-2))]) (nd := (fun _ => [])) (fun _ => by kernel_rfl) trivial ?_
  refine Cfg.reg rfl [0, 5] [] (Γ' := [(5, [], .int .u64 30), (0, [], .int .u32 (x : Int))]) (nd := (fun _ => [((0 ≤ (18446744073709551614 : Int) ∧ (18446744073709551614 : Int) ≤ 18446744073709551615) ∧ 0 ≤ (31 : Int) ∧ (31 : Int) ≤ 18446744073709551615)])) (fun _ => by kernel_rfl) ⟨(by omega), trivial⟩ ?_
  refine Cfg.reg rfl [4] [] (Γ' := [(4, [], .int .u32 ((((((x : Int) * 1073741824) % 4294967296)).toNat ||| (((x : Int) / 4)).toNat : Nat) : Int))]) (nd := (fun _ => [(0 ≤ (30 : Int) ∧ 30 ≤ 32), (0 ≤ (2 : Int) ∧ 2 ≤ 32), ((0 ≤ (((x : Int) * 1073741824) % 4294967296) ∧ (((x : Int) * 1073741824) % 4294967296) ≤ 4294967295) ∧ 0 ≤ ((x : Int) / 4) ∧ ((x : Int) / 4) ≤ 4294967295)])) (fun _ => by kernel_rfl) ⟨(by omega), (by omega), (by omega), trivial⟩ ?_
  refine Cfg.ret rfl (rs := [.tmp 4]) rfl [.int .u32 ((((((x : Int) * 1073741824) % 4294967296)).toNat ||| (((x : Int) / 4)).toNat : Nat) : Int)] ⟨by kernel_rfl, trivial⟩ (fun w1 hp => ?_)
  refine ⟨?_, hp.ext⟩
  unfold rotl
  rw [show x * 1073741824 % 4294967296 = ((x : Int) * 1073741824 % 4294967296).toNat by omega, show x / 4 = ((x : Int) / 4).toNat by omega]
  rfl
set_option maxRecDepth 100000 in
theorem rot19 (x : Nat) (w : World) (hx : x < 2 ^ 32) :
    Calls Tryz.prog 177 #[.int .u32 (x : Int), .int .i64 (-13)] w fun e w' => e = .returned (.int .u32 (rotl x 524288 8192 : Int)) ∧ Ext [] w w' := by
  refine enter (vs := [.int .u32 (x : Int), .int .i64 (-13)]) [] [] [] Tryz.func177 rfl (by kernel_rfl) (HP.start w) ?_
  refine Cfg.reg rfl [0, 1] [] (Γ' := [(0, [], .int .u32 (x : Int)), (1, [], .int .i64 (-13))]) (nd := (fun _ => [])) (fun _ => by kernel_rfl) trivial ?_
  refine Cfg.reg rfl [0, 5] [] (Γ' := [(5, [], .int .u64 19), (0, [], .int .u32 (x : Int))]) (nd := (fun _ => [((0 ≤ (18446744073709551603 : Int) ∧ (18446744073709551603 : Int) ≤ 18446744073709551615) ∧ 0 ≤ (31 : Int) ∧ (31 : Int) ≤ 18446744073709551615)])) (fun _ => by kernel_rfl) ⟨(by omega), trivial⟩ ?_
  refine Cfg.reg rfl [4] [] (Γ' := [(4, [], .int .u32 ((((((x : Int) * 524288) % 4294967296)).toNat ||| (((x : Int) / 8192)).toNat : Nat) : Int))]) (nd := (fun _ => [(0 ≤ (19 : Int) ∧ 19 ≤ 32), (0 ≤ (13 : Int) ∧ 13 ≤ 32), ((0 ≤ (((x : Int) * 524288) % 4294967296) ∧ (((x : Int) * 524288) % 4294967296) ≤ 4294967295) ∧ 0 ≤ ((x : Int) / 8192) ∧ ((x : Int) / 8192) ≤ 4294967295)])) (fun _ => by kernel_rfl) ⟨(by omega), (by omega), (by omega), trivial⟩ ?_
  refine Cfg.ret rfl (rs := [.tmp 4]) rfl [.int .u32 ((((((x : Int) * 524288) % 4294967296)).toNat ||| (((x : Int) / 8192)).toNat : Nat) : Int)] ⟨by kernel_rfl, trivial⟩ (fun w1 hp => ?_)
  refine ⟨?_, hp.ext⟩
  unfold rotl
  rw [show x * 524288 % 4294967296 = ((x : Int) * 524288 % 4294967296).toNat by omega, show x / 8192 = ((x : Int) / 8192).toNat by omega]
  rfl
set_option maxRecDepth 100000 in
theorem rot10 (x : Nat) (w : World) (hx : x < 2 ^ 32) :
    Calls Tryz.prog 177 #[.int .u32 (x : Int), .int .i64 (-22)] w fun e w' => e = .returned (.int .u32 (rotl x 1024 4194304 : Int)) ∧ Ext [] w w' := by
  refine enter (vs := [.int .u32 (x : Int), .int .i64 (-22)]) [] [] [] Tryz.func177 rfl (by kernel_rfl) (HP.start w) ?_
  refine Cfg.reg rfl [0, 1] [] (Γ' := [(0, [], .int .u32 (x : Int)), (1, [], .int .i64 (-22))]) (nd := (fun _ => [])) (fun _ => by kernel_rfl) trivial ?_
  refine Cfg.reg rfl [0, 5] [] (Γ' := [(5, [], .int .u64 10), (0, [], .int .u32 (x : Int))]) (nd := (fun _ => [((0 ≤ (18446744073709551594 : Int) ∧ (18446744073709551594 : Int) ≤ 18446744073709551615) ∧ 0 ≤ (31 : Int) ∧ (31 : Int) ≤ 18446744073709551615)])) (fun _ => by kernel_rfl) ⟨(by omega), trivial⟩ ?_
  refine Cfg.reg rfl [4] [] (Γ' := [(4, [], .int .u32 ((((((x : Int) * 1024) % 4294967296)).toNat ||| (((x : Int) / 4194304)).toNat : Nat) : Int))]) (nd := (fun _ => [(0 ≤ (10 : Int) ∧ 10 ≤ 32), (0 ≤ (22 : Int) ∧ 22 ≤ 32), ((0 ≤ (((x : Int) * 1024) % 4294967296) ∧ (((x : Int) * 1024) % 4294967296) ≤ 4294967295) ∧ 0 ≤ ((x : Int) / 4194304) ∧ ((x : Int) / 4194304) ≤ 4294967295)])) (fun _ => by kernel_rfl) ⟨(by omega), (by omega), (by omega), trivial⟩ ?_
  refine Cfg.ret rfl (rs := [.tmp 4]) rfl [.int .u32 ((((((x : Int) * 1024) % 4294967296)).toNat ||| (((x : Int) / 4194304)).toNat : Nat) : Int)] ⟨by kernel_rfl, trivial⟩ (fun w1 hp => ?_)
  refine ⟨?_, hp.ext⟩
  unfold rotl
  rw [show x * 1024 % 4294967296 = ((x : Int) * 1024 % 4294967296).toNat by omega, show x / 4194304 = ((x : Int) / 4194304).toNat by omega]
  rfl
end Go.Proofs.YtdjpokckamlccaaGreatDoor
namespace Go.Proofs.YtdjpokckamlccaaGreatDoor
open K
set_option linter.unusedVariables false
/-- The state: eight words, the block, how much of it is held, how much there was in all. -/
def stC (hs : List Nat) (bl : List UInt8) (held total : Nat) : Array Value := ((wv hs).toList ++ ((bv bl).toList ++ [Value.int .i64 (held : Int), Value.int .u64 (total : Int)])).toArray
theorem wlen {hs : List Nat} {n : Nat} (h : hs.length = n) : (wv hs).toList.length = n := by rw [Array.length_toList, wv_size, h]
theorem blen {hs : List UInt8} {n : Nat} (h : hs.length = n) : (bv hs).toList.length = n := by rw [Array.length_toList, bv_size, h]
section
variable {hs : List Nat} {bl : List UInt8} {held total : Nat}
theorem st_size (hh : hs.length = 8) (hb : bl.length = 64) : (stC hs bl held total).size = 74 := by
  have h1 := wlen hh; have h2 := blen hb
  simp only [stC, List.size_toArray, List.length_append, h1, h2]; rfl
theorem st_sum (hh : hs.length = 8) {k : Nat} (hk : k < 8) : (stC hs bl held total)[k]? = some (.int .u32 ((hs.getD k 0 : Nat) : Int)) := by
  have h1 := wv_get hh hk
  have h2 := wlen hh
  rw [← Array.getElem?_toList] at h1
  simp only [stC, List.getElem?_toArray]
  rw [List.getElem?_append_left (by omega), h1]
theorem st_byte (hh : hs.length = 8) (hb : bl.length = 64) {j : Nat} (hj : j < 64) : (stC hs bl held total)[8 + j]? = some (.int .u8 ((bl.getD j 0).toNat : Int)) := by
  have h1 := bv_get hb hj
  have h2 := wlen hh; have h3 := blen hb
  rw [← Array.getElem?_toList] at h1
  simp only [stC, List.getElem?_toArray]
  rw [List.getElem?_append_right (by omega), h2, show 8 + j - 8 = j by omega, List.getElem?_append_left (by omega), h1]
theorem st_held (hh : hs.length = 8) (hb : bl.length = 64) : (stC hs bl held total)[72]? = some (.int .i64 (held : Int)) := by
  have h2 := wlen hh; have h3 := blen hb
  simp only [stC, List.getElem?_toArray]
  rw [List.getElem?_append_right (by omega), h2, List.getElem?_append_right (by omega), h3]; rfl
theorem st_total (hh : hs.length = 8) (hb : bl.length = 64) : (stC hs bl held total)[73]? = some (.int .u64 (total : Int)) := by
  have h2 := wlen hh; have h3 := blen hb
  simp only [stC, List.getElem?_toArray]
  rw [List.getElem?_append_right (by omega), h2, List.getElem?_append_right (by omega), h3]; rfl
theorem st_setSum (hh : hs.length = 8) {k : Nat} (hk : k < 8) {x : Int} (hx : 0 ≤ x) : (stC hs bl held total).setIfInBounds k (.int .u32 x) = stC (hs.set k x.toNat) bl held total := by
  have h1 := wv_set (l := hs) (i := k) hx
  have h2 := wlen hh
  apply Array.ext'
  simp only [stC, List.setIfInBounds_toArray]
  rw [List.set_append_left _ _ (by omega), ← h1, Array.toList_setIfInBounds]
theorem st_setHeld (hh : hs.length = 8) (hb : bl.length = 64) {n : Nat} {x : Int} (hx : x = (n : Int)) : (stC hs bl held total).setIfInBounds 72 (.int .i64 x) = stC hs bl n total := by
  subst hx
  have h2 := wlen hh; have h3 := blen hb
  apply Array.ext'
  simp only [stC, List.setIfInBounds_toArray]
  rw [List.set_append_right _ _ (by omega), h2, List.set_append_right _ _ (by omega), h3]; rfl
theorem st_setTotal (hh : hs.length = 8) (hb : bl.length = 64) {n : Nat} {x : Int} (hx : x = (n : Int)) : (stC hs bl held total).setIfInBounds 73 (.int .u64 x) = stC hs bl held n := by
  subst hx
  have h2 := wlen hh; have h3 := blen hb
  apply Array.ext'
  simp only [stC, List.setIfInBounds_toArray]
  rw [List.set_append_right _ _ (by omega), h2, List.set_append_right _ _ (by omega), h3]; rfl
end
/-- The words of a block. -/
def be4 (a b c d : Nat) : Nat := (((a * 16777216 % 4294967296) ||| (b * 65536 % 4294967296)) ||| (c * 256 % 4294967296)) ||| d
theorem m24 (n : Nat) : ((n : Int) * 16777216 % 4294967296).toNat = n * 16777216 % 4294967296 := by omega
theorem m16 (n : Nat) : ((n : Int) * 65536 % 4294967296).toNat = n * 65536 % 4294967296 := by omega
theorem m8 (n : Nat) : ((n : Int) * 256 % 4294967296).toNat = n * 256 % 4294967296 := by omega
theorem d10 (n : Nat) : ((n : Int) / 1024).toNat = n / 1024 := by omega
theorem d3 (n : Nat) : ((n : Int) / 8).toNat = n / 8 := by omega
theorem be4_eq (a b c d : Nat) : (((((((((((((a : Nat) : Int) * 16777216) % 4294967296)).toNat ||| (((((b : Nat) : Int) * 65536) % 4294967296)).toNat : Nat) : Int)).toNat ||| (((((c : Nat) : Int) * 256) % 4294967296)).toNat : Nat) : Int)).toNat ||| ((((d : Nat) : Int))).toNat : Nat) : Int) = ((be4 a b c d : Nat) : Int) := by
  unfold be4
  rw [m24, m16, m8, Int.toNat_natCast, Int.toNat_natCast, Int.toNat_natCast]
def bt4 (bl : List UInt8) (i : Nat) : Nat := (bl.getD i 0).toNat
def shBe (bl : List UInt8) (t : Nat) : Nat := be4 (bt4 bl (4 * t)) (bt4 bl (4 * t + 1)) (bt4 bl (4 * t + 2)) (bt4 bl (4 * t + 3))
def wlow (x : Nat) : Nat := (rotl x 33554432 128 ^^^ rotl x 16384 262144) ^^^ (x / 8)
def whigh (x : Nat) : Nat := (rotl x 32768 131072 ^^^ rotl x 8192 524288) ^^^ (x / 1024)
theorem x3 (p q r : Nat) (c : Int) (h : c.toNat = r) : ((((((p : Nat) : Int)).toNat ^^^ (((q : Nat) : Int)).toNat : Nat) : Int)).toNat ^^^ c.toNat = (p ^^^ q) ^^^ r := by rw [h]; rfl
theorem wsum (a b c d : Nat) : ((((((a : Int) + (b : Int)) % 4294967296) + (c : Int)) % 4294967296) + (d : Int)) % 4294967296 = (((((a + b) % 4294967296 + c) % 4294967296 + d) % 4294967296 : Nat) : Int) := by omega
def wn4 (y x7 x x16 : Nat) : Nat := (((whigh y + x7) % 4294967296 + wlow x) % 4294967296 + x16) % 4294967296
theorem wn_eq (y x7 x x16 : Nat) : (((((((((((rotl y 32768 131072 : Int)).toNat ^^^ ((rotl y 8192 524288 : Int)).toNat : Nat) : Int)).toNat ^^^ (((y : Int) / 1024)).toNat : Nat) : Int) + (x7 : Int)) % 4294967296) + (((((((rotl x 33554432 128 : Int)).toNat ^^^ ((rotl x 16384 262144 : Int)).toNat : Nat) : Int)).toNat ^^^ (((x : Int) / 8)).toNat : Nat) : Int)) % 4294967296 + (x16 : Int)) % 4294967296 = ((wn4 y x7 x x16 : Nat) : Int) := by
  rw [x3 _ _ _ _ (d10 y), x3 _ _ _ _ (d3 x)]
  exact wsum (whigh y) x7 (wlow x) x16
def rg (r : List Nat) (i : Nat) : Nat := r.getD i 0
def wnext (bl : List UInt8) (r : List Nat) (t : Nat) : Nat := if t < 16 then shBe bl t else wn4 (rg r (t - 2)) (rg r (t - 7)) (rg r (t - 15)) (rg r (t - 16))
def row (bl : List UInt8) : Nat → List Nat
  | 0 => List.replicate 64 0
  | t + 1 => (row bl t).set t (wnext bl (row bl t) t)
theorem row_len (bl : List UInt8) : ∀ t, (row bl t).length = 64
  | 0 => by simp [row]
  | t + 1 => by rw [row, List.length_set]; exact row_len bl t
theorem b8 (b : UInt8) : b.toNat < 2 ^ 32 := by have := UInt8.toNat_lt b; omega
theorem bt4_lt (bl : List UInt8) (i : Nat) : bt4 bl i < 256 := UInt8.toNat_lt _
theorem b84 (bl : List UInt8) (i : Nat) : bt4 bl i < 2 ^ 32 := b8 _
theorem be_lt (bl : List UInt8) (t : Nat) : shBe bl t < 2 ^ 32 :=
  Nat.or_lt_two_pow (Nat.or_lt_two_pow (Nat.or_lt_two_pow (Nat.mod_lt _ (by decide)) (Nat.mod_lt _ (by decide))) (Nat.mod_lt _ (by decide))) (b84 _ _)
theorem wnext_lt (bl : List UInt8) (r : List Nat) (t : Nat) : wnext bl r t < 2 ^ 32 := by
  unfold wnext
  split
  · exact be_lt ..
  · exact Nat.mod_lt _ (by decide)
theorem row_lt (bl : List UInt8) : ∀ t j, rg (row bl t) j < 2 ^ 32
  | 0, j => by
    simp only [rg, row, List.getD_eq_getElem?_getD, List.getElem?_replicate]
    split <;> simp
  | t + 1, j => by
    have ih := row_lt bl t j
    simp only [rg, row, List.getD_eq_getElem?_getD, List.getElem?_set] at *
    split
    · split
      · exact wnext_lt ..
      · simp
    · exact ih
theorem row_step (bl : List UInt8) (t : Nat) {x : Int} (hx : x = (wnext bl (row bl t) t : Int)) : (wv (row bl t)).setIfInBounds t (.int .u32 x) = wv (row bl (t + 1)) := by
  subst hx
  rw [wv_set (by omega)]
  rfl
theorem wnext_lo {bl : List UInt8} {t : Nat} (h : t < 16) {x : Int} (hx : x = ((shBe bl t : Nat) : Int)) : x = (wnext bl (row bl t) t : Int) := by rw [hx]; unfold wnext; rw [if_pos h]
theorem wnext_hi {bl : List UInt8} {t : Nat} (h : 16 ≤ t) {x : Int} (hx : x = ((wn4 (rg (row bl t) (t - 2)) (rg (row bl t) (t - 7)) (rg (row bl t) (t - 15)) (rg (row bl t) (t - 16)) : Nat) : Int)) : x = (wnext bl (row bl t) t : Int) := by rw [hx]; unfold wnext; rw [if_neg (by omega)]
theorem wsize (bl : List UInt8) (t : Nat) : (wv (row bl t)).size = 64 := by rw [wv_size, row_len]
end Go.Proofs.YtdjpokckamlccaaGreatDoor
namespace Go.Proofs.YtdjpokckamlccaaGreatDoor
open K
set_option linter.unusedVariables false
/-- The rounds' numbers. -/
def Kc : List Nat := [1116352408, 1899447441, 3049323471, 3921009573, 961987163, 1508970993, 2453635748, 2870763221, 3624381080, 310598401, 607225278, 1426881987, 1925078388, 2162078206, 2614888103, 3248222580, 3835390401, 4022224774, 264347078, 604807628, 770255983, 1249150122, 1555081692, 1996064986, 2554220882, 2821834349, 2952996808, 3210313671, 3336571891, 3584528711, 113926993, 338241895, 666307205, 773529912, 1294757372, 1396182291, 1695183700, 1986661051, 2177026350, 2456956037, 2730485921, 2820302411, 3259730800, 3345764771, 3516065817, 3600352804, 4094571909, 275423344, 430227734, 506948616, 659060556, 883997877, 958139571, 1322822218, 1537002063, 1747873779, 1955562222, 2024104815, 2227730452, 2361852424, 2428436474, 2756734187, 3204031479, 3329325298]
structure W8 where
  a : Nat
  b : Nat
  c : Nat
  d : Nat
  e : Nat
  f : Nat
  g : Nat
  h : Nat
structure W8.Ok (s : W8) : Prop where
  a : s.a < 2 ^ 32
  b : s.b < 2 ^ 32
  c : s.c < 2 ^ 32
  d : s.d < 2 ^ 32
  e : s.e < 2 ^ 32
  f : s.f < 2 ^ 32
  g : s.g < 2 ^ 32
  h : s.h < 2 ^ 32
def bigE (x : Nat) : Nat := (rotl x 67108864 64 ^^^ rotl x 2097152 2048) ^^^ rotl x 128 33554432
def bigA (x : Nat) : Nat := (rotl x 1073741824 4 ^^^ rotl x 524288 8192) ^^^ rotl x 1024 4194304
def choi (e f g : Nat) : Nat := (e &&& f) ^^^ ((4294967295 ^^^ e) &&& g)
def most (a b c : Nat) : Nat := ((a &&& b) ^^^ (a &&& c)) ^^^ (b &&& c)
def fst5 (h x c k w : Nat) : Nat := ((((h + x) % 4294967296 + c) % 4294967296 + k) % 4294967296 + w) % 4294967296
def frst (k w : Nat) (s : W8) : Nat := fst5 s.h (bigE s.e) (choi s.e s.f s.g) k w
def scnd (s : W8) : Nat := (bigA s.a + most s.a s.b s.c) % 4294967296
def rnd (k w : Nat) (s : W8) : W8 := ⟨(frst k w s + scnd s) % 4294967296, s.a, s.b, s.c, (s.d + frst k w s) % 4294967296, s.e, s.f, s.g⟩
def w8 (l : List Nat) : W8 := ⟨rg l 0, rg l 1, rg l 2, rg l 3, rg l 4, rg l 5, rg l 6, rg l 7⟩
def w8l (s : W8) : List Nat := [s.a, s.b, s.c, s.d, s.e, s.f, s.g, s.h]
def rv (hs : List Nat) (bl : List UInt8) : Nat → W8
  | 0 => w8 hs
  | t + 1 => rnd (rg Kc t) (rg (row bl 64) t) (rv hs bl t)
theorem rv_ok {hs : List Nat} (hlt : ∀ i, rg hs i < 2 ^ 32) (bl : List UInt8) : ∀ t, (rv hs bl t).Ok
  | 0 => ⟨hlt 0, hlt 1, hlt 2, hlt 3, hlt 4, hlt 5, hlt 6, hlt 7⟩
  | t + 1 => by
    have ih := rv_ok hlt bl t
    exact ⟨Nat.mod_lt _ (by decide), ih.a, ih.b, ih.c, Nat.mod_lt _ (by decide), ih.e, ih.f, ih.g⟩
theorem add32 (x y : Nat) : ((x : Int) + (y : Int)) % 4294967296 = (((x + y) % 4294967296 : Nat) : Int) := by omega
theorem fst5_eq (h x c k w : Nat) : ((((((((h : Int) + (x : Int)) % 4294967296) + (c : Int)) % 4294967296) + (k : Int)) % 4294967296) + (w : Int)) % 4294967296 = ((fst5 h x c k w : Nat) : Int) := by unfold fst5; omega
/-- The sums behind k of the additions. -/
def sm (hs vs : List Nat) : Nat → List Nat
  | 0 => hs
  | k + 1 => (sm hs vs k).set k ((rg (sm hs vs k) k + rg vs k) % 4294967296)
theorem sm_len {hs : List Nat} (vs : List Nat) (hh : hs.length = 8) : ∀ k, (sm hs vs k).length = 8
  | 0 => hh
  | k + 1 => by rw [sm, List.length_set]; exact sm_len vs hh k
theorem sm_lt {hs : List Nat} (vs : List Nat) (hlt : ∀ i, rg hs i < 2 ^ 32) : ∀ k i, rg (sm hs vs k) i < 2 ^ 32
  | 0, i => hlt i
  | k + 1, i => by
    have ih := sm_lt vs hlt k i
    simp only [rg, sm, List.getD_eq_getElem?_getD, List.getElem?_set] at *
    split
    · split
      · exact Nat.mod_lt _ (by decide)
      · simp
    · exact ih
def mixF (hs : List Nat) (bl : List UInt8) : List Nat := sm hs (w8l (rv hs bl 64)) 8
theorem sm_step {hs vs : List Nat} {bl : List UInt8} {held total k : Nat} (hh : hs.length = 8) (hk : k < 8) :
    (stC (sm hs vs k) bl held total).setIfInBounds k (.int .u32 (((rg (sm hs vs k) k : Int) + (rg vs k : Int)) % 4294967296)) = stC (sm hs vs (k + 1)) bl held total := by
  rw [add32, st_setSum (sm_len vs hh k) hk (by omega), Int.toNat_natCast]
  rfl
theorem xx3 (p q r : Nat) : ((((((((p : Nat) : Int)).toNat ^^^ (((q : Nat) : Int)).toNat : Nat) : Int)).toNat ^^^ (((r : Nat) : Int)).toNat : Nat) : Int) = (((p ^^^ q) ^^^ r : Nat) : Int) := rfl
theorem cc4 (m e f g : Nat) : (((((((e : Nat) : Int)).toNat &&& (((f : Nat) : Int)).toNat : Nat) : Int)).toNat ^^^ ((((((m ^^^ (((e : Nat) : Int)).toNat : Nat) : Int)).toNat &&& (((g : Nat) : Int)).toNat : Nat) : Int)).toNat : Nat) = (((e &&& f) ^^^ ((m ^^^ e) &&& g) : Nat) : Int) := rfl
theorem bigE_eq (x : Nat) : ((((((rotl x 67108864 64 : Int)).toNat ^^^ ((rotl x 2097152 2048 : Int)).toNat : Nat) : Int)).toNat ^^^ ((rotl x 128 33554432 : Int)).toNat : Nat) = ((bigE x : Nat) : Int) := by unfold bigE; exact xx3 _ _ _
theorem bigA_eq (x : Nat) : ((((((rotl x 1073741824 4 : Int)).toNat ^^^ ((rotl x 524288 8192 : Int)).toNat : Nat) : Int)).toNat ^^^ ((rotl x 1024 4194304 : Int)).toNat : Nat) = ((bigA x : Nat) : Int) := by unfold bigA; exact xx3 _ _ _
theorem choi_eq (e f g : Nat) : (((((((e : Nat) : Int)).toNat &&& (((f : Nat) : Int)).toNat : Nat) : Int)).toNat ^^^ ((((((4294967295 ^^^ (((e : Nat) : Int)).toNat : Nat) : Int)).toNat &&& (((g : Nat) : Int)).toNat : Nat) : Int)).toNat : Nat) = ((choi e f g : Nat) : Int) := by unfold choi; exact cc4 _ _ _ _
theorem most_eq (a b c : Nat) : ((((((((((a : Int)).toNat &&& ((b : Int)).toNat : Nat) : Int)).toNat ^^^ (((((a : Int)).toNat &&& ((c : Int)).toNat : Nat) : Int)).toNat : Nat) : Int)).toNat ^^^ (((((b : Int)).toNat &&& ((c : Int)).toNat : Nat) : Int)).toNat : Nat) : Int) = ((most a b c : Nat) : Int) := rfl
theorem frst_eq (k w : Nat) (s : W8) : ((((((((s.h : Int) + (bigE s.e : Int)) % 4294967296) + (choi s.e s.f s.g : Int)) % 4294967296) + (k : Int)) % 4294967296) + (w : Int)) % 4294967296 = ((frst k w s : Nat) : Int) := by unfold frst; exact fst5_eq _ _ _ _ _
theorem scnd_eq (s : W8) : ((bigA s.a : Int) + (most s.a s.b s.c : Int)) % 4294967296 = ((scnd s : Nat) : Int) := by unfold scnd; exact add32 _ _
theorem rv_succ (hs : List Nat) (bl : List UInt8) (t : Nat) : rv hs bl (t + 1) = rnd (rg Kc t) (rg (row bl 64) t) (rv hs bl t) := rfl
theorem rnd_def (k w : Nat) (s : W8) : rnd k w s = ⟨(frst k w s + scnd s) % 4294967296, s.a, s.b, s.c, (s.d + frst k w s) % 4294967296, s.e, s.f, s.g⟩ := rfl
section
variable (a b c d e f g h : Nat)
theorem pa : (W8.mk a b c d e f g h).a = a := rfl
theorem pb : (W8.mk a b c d e f g h).b = b := rfl
theorem pc : (W8.mk a b c d e f g h).c = c := rfl
theorem pd : (W8.mk a b c d e f g h).d = d := rfl
theorem pe : (W8.mk a b c d e f g h).e = e := rfl
theorem pf : (W8.mk a b c d e f g h).f = f := rfl
theorem pg : (W8.mk a b c d e f g h).g = g := rfl
theorem ph : (W8.mk a b c d e f g h).h = h := rfl
end
section
variable (hs : List Nat) (bl : List UInt8) (t : Nat)
theorem rv_a : ((frst (rg Kc t) (rg (row bl 64) t) (rv hs bl t) : Int) + (scnd (rv hs bl t) : Int)) % 4294967296 = ((rv hs bl (t + 1)).a : Int) := by rw [rv_succ, rnd_def, pa, add32]
theorem rv_b : ((rv hs bl t).a : Int) = ((rv hs bl (t + 1)).b : Int) := by rw [rv_succ, rnd_def, pb]
theorem rv_c : ((rv hs bl t).b : Int) = ((rv hs bl (t + 1)).c : Int) := by rw [rv_succ, rnd_def, pc]
theorem rv_d : ((rv hs bl t).c : Int) = ((rv hs bl (t + 1)).d : Int) := by rw [rv_succ, rnd_def, pd]
theorem rv_e : (((rv hs bl t).d : Int) + (frst (rg Kc t) (rg (row bl 64) t) (rv hs bl t) : Int)) % 4294967296 = ((rv hs bl (t + 1)).e : Int) := by rw [rv_succ, rnd_def, pe, add32]
theorem rv_f : ((rv hs bl t).e : Int) = ((rv hs bl (t + 1)).f : Int) := by rw [rv_succ, rnd_def, pf]
theorem rv_g : ((rv hs bl t).f : Int) = ((rv hs bl (t + 1)).g : Int) := by rw [rv_succ, rnd_def, pg]
theorem rv_h : ((rv hs bl t).g : Int) = ((rv hs bl (t + 1)).h : Int) := by rw [rv_succ, rnd_def, ph]
end
theorem w8l_len (s : W8) : (w8l s).length = 8 := rfl
def KT (kt : Array Value) : Prop := ∀ t, t < 64 → kt[t]? = some (.int .u32 (rg Kc t : Int))
end Go.Proofs.YtdjpokckamlccaaGreatDoor
namespace Go.Proofs.YtdjpokckamlccaaGreatDoor
open K
set_option linter.unusedVariables false
/-- What a digest has so far: sums, the block, how much of it is held. -/
structure Sh where
  hs : List Nat
  bl : List UInt8
  held : Nat
structure Sh.Ok (s : Sh) : Prop where
  hh : s.hs.length = 8
  hb : s.bl.length = 64
  hlt : ∀ i, rg s.hs i < 2 ^ 32
  held : s.held < 64
theorem mixF_len {hs : List Nat} (bl : List UInt8) (hh : hs.length = 8) : (mixF hs bl).length = 8 := sm_len _ hh 8
theorem mixF_lt {hs : List Nat} (bl : List UInt8) (hlt : ∀ i, rg hs i < 2 ^ 32) : ∀ i, rg (mixF hs bl) i < 2 ^ 32 := sm_lt _ hlt 8
/-- One byte more. -/
def feedB (s : Sh) (c : UInt8) : Sh := if s.held + 1 = 64 then ⟨mixF s.hs (s.bl.set s.held c), s.bl.set s.held c, 0⟩ else ⟨s.hs, s.bl.set s.held c, s.held + 1⟩
def feed (s : Sh) (l : List UInt8) : Sh := l.foldl feedB s
theorem feed_nil (s : Sh) : feed s [] = s := rfl
theorem feed_app (s : Sh) (a b : List UInt8) : feed s (a ++ b) = feed (feed s a) b := List.foldl_append ..
theorem feedB_ok {s : Sh} (h : s.Ok) (c : UInt8) : (feedB s c).Ok := by
  unfold feedB
  split
  · exact ⟨mixF_len _ h.hh, by simp [h.hb], mixF_lt _ h.hlt, Nat.zero_lt_succ 63⟩
  · have := h.held
    exact ⟨h.hh, by simp [h.hb], h.hlt, by show s.held + 1 < 64; omega⟩
theorem feed_ok : ∀ (l : List UInt8) {s : Sh}, s.Ok → (feed s l).Ok
  | [], s, h => h
  | c :: l, s, h => feed_ok l (feedB_ok h c)
theorem feedB_held {s : Sh} (h : s.Ok) (c : UInt8) : (feedB s c).held = (s.held + 1) % 64 := by
  have := h.held
  unfold feedB
  split <;> simp only <;> omega
theorem feed_held : ∀ (l : List UInt8) {s : Sh}, s.Ok → (feed s l).held = (s.held + l.length) % 64
  | [], s, h => by have := h.held; show s.held = (s.held + 0) % 64; omega
  | c :: l, s, h => by
    have e := feed_held l (feedB_ok h c)
    rw [feedB_held h c] at e
    show (feed (feedB s c) l).held = _
    rw [e, List.length_cons]; omega
/-- Bytes laid over a block. -/
def lay (bl : List UInt8) (off : Nat) : List UInt8 → List UInt8
  | [] => bl
  | c :: l => lay (bl.set off c) (off + 1) l
theorem lay_len : ∀ (l bl : List UInt8) (off : Nat), (lay bl off l).length = bl.length
  | [], bl, off => rfl
  | c :: l, bl, off => by rw [lay, lay_len l, List.length_set]
theorem feed_part : ∀ (l : List UInt8) (hs : List Nat) (bl : List UInt8) (held : Nat), held + l.length < 64 → feed ⟨hs, bl, held⟩ l = ⟨hs, lay bl held l, held + l.length⟩
  | [], hs, bl, held, _ => rfl
  | c :: l, hs, bl, held, h => by
    rw [List.length_cons] at h
    have e : feedB ⟨hs, bl, held⟩ c = ⟨hs, bl.set held c, held + 1⟩ := by unfold feedB; rw [if_neg (by show ¬ held + 1 = 64; omega)]
    show feed (feedB ⟨hs, bl, held⟩ c) l = _
    rw [e, feed_part l hs (bl.set held c) (held + 1) (by omega), lay, List.length_cons, show held + 1 + l.length = held + (l.length + 1) by omega]
theorem feed_full : ∀ (l : List UInt8) (hs : List Nat) (bl : List UInt8) (held : Nat), held < 64 → held + l.length = 64 → feed ⟨hs, bl, held⟩ l = ⟨mixF hs (lay bl held l), lay bl held l, 0⟩
  | [], hs, bl, held, h0, h => by simp at h; omega
  | c :: l, hs, bl, held, h0, h => by
    rw [List.length_cons] at h
    show feed (feedB ⟨hs, bl, held⟩ c) l = _
    by_cases hl : held + 1 = 64
    · obtain rfl : l = [] := List.eq_nil_of_length_eq_zero (by omega)
      unfold feedB; rw [if_pos hl]; rfl
    · have e : feedB ⟨hs, bl, held⟩ c = ⟨hs, bl.set held c, held + 1⟩ := by unfold feedB; rw [if_neg hl]
      rw [e, feed_full l hs (bl.set held c) (held + 1) (by omega) (by omega), lay]
theorem st_setByte {hs : List Nat} {bl : List UInt8} {held total j : Nat} (hh : hs.length = 8) (hb : bl.length = 64) (hj : j < 64) (c : UInt8) :
    (stC hs bl held total).setIfInBounds (8 + j) (.int .u8 (c.toNat : Int)) = stC hs (bl.set j c) held total := by
  have h1 := bv_set (l := bl) (i := j) (x := (c.toNat : Int)) (by omega) (by have := UInt8.toNat_lt c; omega)
  have h2 := wlen hh; have h3 := blen hb
  apply Array.ext'
  simp only [stC, List.setIfInBounds_toArray]
  rw [List.set_append_right _ _ (by omega), h2, show 8 + j - 8 = j by omega, List.set_append_left _ _ (by omega)]
  rw [show UInt8.ofNat ((c.toNat : Int)).toNat = c by simp] at h1
  rw [← h1, Array.toList_setIfInBounds]
theorem spl_lay : ∀ (l : List UInt8) {hs : List Nat} {bl : List UInt8} {held total j : Nat}, hs.length = 8 → bl.length = 64 → j + l.length ≤ 64 → spl (stC hs bl held total) (8 + j) (bv l).toList = stC hs (lay bl j l) held total
  | [], hs, bl, held, total, j, hh, hb, hj => rfl
  | c :: l, hs, bl, held, total, j, hh, hb, hj => by
    rw [List.length_cons] at hj
    show spl ((stC hs bl held total).setIfInBounds (8 + j) (.int .u8 (c.toNat : Int))) (8 + j + 1) (bv l).toList = _
    rw [st_setByte hh hb (by omega), show 8 + j + 1 = 8 + (j + 1) by omega, spl_lay l hh (by simp [hb]) (by omega), lay]
theorem off_eq {held : Nat} (h : held < 64) : (if 64 = held then 8 else (addO 8 held)) = 8 + held := by rw [if_neg (by omega), addO_eq]
theorem ext_list (p : ByteArray) (n : Nat) : (p.extract n p.size).data.toList = p.data.toList.drop n := by
  rw [ByteArray.data_extract, Array.toList_extract]
  have : p.size = p.data.toList.length := by simp
  rw [this, List.extract_eq_take_drop, List.take_of_length_le (by simp)]
theorem part_len {p : ByteArray} {n : Nat} (h : n ≤ p.size) : (p.data.toList.take n).length = n := by
  have : p.size = p.data.toList.length := by simp
  rw [List.length_take]; omega
theorem feed_ext (s : Sh) (p : ByteArray) (n : Nat) : feed (feed s (p.data.toList.take n)) (p.extract n p.size).data.toList = feed s p.data.toList := by
  rw [ext_list, ← feed_app, List.take_append_drop]
/-- How much of a text fits. -/
def cn (p : ByteArray) (held : Nat) : Nat := min p.size (64 - held)
theorem ext_size (p : ByteArray) (n : Nat) (h : n ≤ p.size) : (p.extract n p.size).size = p.size - n := by
  rw [ByteArray.size_extract]; omega
end Go.Proofs.YtdjpokckamlccaaGreatDoor
namespace Go.Proofs.YtdjpokckamlccaaGreatDoor
open K
set_option linter.unusedVariables false
/-- The length in bits. -/
def lb (total : Nat) : Nat := total * 8 % 18446744073709551616
theorem lb_eq (total : Nat) : ((total : Int) * 8) % 18446744073709551616 = ((lb total : Nat) : Int) := by unfold lb; omega
/-- Behind the byte 128 and j zeros. -/
def pz (z : Sh) (j : Nat) : Sh := feed z (128 :: List.replicate j 0)
def tj (total j : Nat) : Nat := (total + 1 + j) % 18446744073709551616
def padN (z : Sh) : Nat := (119 - z.held) % 64
theorem pz_zero (z : Sh) : feedB z 128 = pz z 0 := rfl
theorem pz_succ (z : Sh) (j : Nat) : feedB (pz z j) 0 = pz z (j + 1) := by
  unfold pz
  rw [List.replicate_succ', ← List.cons_append, feed_app]; rfl
theorem tj_zero (total : Nat) : (total + 1) % 18446744073709551616 = tj total 0 := rfl
theorem tj_succ (total j : Nat) : (tj total j + 1) % 18446744073709551616 = tj total (j + 1) := by unfold tj; omega
theorem pz_ok {z : Sh} (h : z.Ok) (j : Nat) : (pz z j).Ok := feed_ok _ h
theorem pz_held {z : Sh} (h : z.Ok) (j : Nat) : (pz z j).held = (z.held + 1 + j) % 64 := by
  unfold pz
  rw [feed_held _ h, List.length_cons, List.length_replicate, show z.held + (j + 1) = z.held + 1 + j by omega]
theorem pad_end {z : Sh} (h : z.Ok) {j : Nat} (hj : j ≤ padN z) : ((pz z j).held : Int) = 56 ↔ j = padN z := by
  have h1 := h.held
  rw [pz_held h]
  unfold padN at *
  omega
/-- The length's bytes. -/
def tb (n i : Nat) : UInt8 := UInt8.ofNat (n / 2 ^ (56 - 8 * i))
def tlr (n k : Nat) : List UInt8 := (List.range k).map (tb n) ++ List.replicate (8 - k) 0
theorem tlr_len {n k : Nat} (h : k ≤ 8) : (tlr n k).length = 8 := by simp [tlr]; omega
theorem u8mod (m : Nat) : UInt8.ofNat (m % 256) = UInt8.ofNat m := by apply UInt8.toNat_inj.1; simp
theorem set_one (A : List UInt8) (m : Nat) (x : UInt8) (hm : 1 ≤ m) : (A ++ List.replicate m 0).set A.length x = A ++ [x] ++ List.replicate (m - 1) 0 := by
  obtain ⟨q, rfl⟩ : ∃ q, m = q + 1 := ⟨m - 1, by omega⟩
  simp [List.replicate_succ]
theorem tlr_step {n k : Nat} (hk : k < 8) {x : Int} (hx : x = (n : Int) / ((2 ^ ((56 - 8 * (k : Int))).toNat : Nat) : Int) % 256) : (bv (tlr n k)).setIfInBounds k (.int .u8 x) = bv (tlr n (k + 1)) := by
  have e : x = ((n / 2 ^ (56 - 8 * k) % 256 : Nat) : Int) := by
    rw [hx, show (56 - 8 * (k : Int)).toNat = 56 - 8 * k by omega]; rfl
  subst e
  have hb : n / 2 ^ (56 - 8 * k) % 256 < 256 := Nat.mod_lt _ (by decide)
  rw [bv_set (Int.natCast_nonneg _) (by omega), Int.toNat_natCast, u8mod]
  congr 1
  have h1 := set_one ((List.range k).map (tb n)) (8 - k) (tb n k) (by omega)
  rw [List.length_map, List.length_range] at h1
  unfold tlr
  rw [List.range_succ, List.map_append]
  exact h1
def tls (n : Nat) : ByteArray := ⟨(tlr n 8).toArray⟩
/-- A word's bytes. -/
def dg4 (x : Nat) : List UInt8 := [UInt8.ofNat (x / 16777216), UInt8.ofNat (x / 65536), UInt8.ofNat (x / 256), UInt8.ofNat x]
def dgr (hs : List Nat) (k : Nat) : List UInt8 := (List.range k).flatMap (fun i => dg4 (rg hs i)) ++ List.replicate (32 - 4 * k) 0
theorem dgf_len (hs : List Nat) : ∀ k, ((List.range k).flatMap (fun i => dg4 (rg hs i))).length = 4 * k
  | 0 => rfl
  | k + 1 => by rw [List.range_succ, List.flatMap_append, List.length_append, dgf_len hs k]; simp [dg4]; omega
theorem dgr_len {hs : List Nat} {k : Nat} (h : k ≤ 8) : (dgr hs k).length = 32 := by simp only [dgr, List.length_append, dgf_len, List.length_replicate]; omega
theorem set_four (A : List UInt8) (m : Nat) (a b c d : UInt8) (hm : 4 ≤ m) : ((((A ++ List.replicate m 0).set A.length a).set (A.length + 1) b).set (A.length + 2) c).set (A.length + 3) d = A ++ [a, b, c, d] ++ List.replicate (m - 4) 0 := by
  obtain ⟨q, rfl⟩ : ∃ q, m = q + 4 := ⟨m - 4, by omega⟩
  simp [List.replicate_succ]
theorem bset (l : List UInt8) (i m : Nat) : (bv l).setIfInBounds i (.int .u8 ((m % 256 : Nat) : Int)) = bv (l.set i (UInt8.ofNat m)) := by
  have hb : m % 256 < 256 := Nat.mod_lt _ (by decide)
  rw [bv_set (Int.natCast_nonneg _) (by omega), Int.toNat_natCast, u8mod]
theorem dgr_step (hs : List Nat) {k : Nat} (hk : k < 8) {a b c d : Int} (ha : a = ((rg hs k / 16777216 % 256 : Nat) : Int)) (hb : b = ((rg hs k / 65536 % 256 : Nat) : Int)) (hc : c = ((rg hs k / 256 % 256 : Nat) : Int)) (hd : d = ((rg hs k % 256 : Nat) : Int)) :
    ((((bv (dgr hs k)).setIfInBounds (4 * k) (.int .u8 a)).setIfInBounds ((4 * k) + 1) (.int .u8 b)).setIfInBounds ((4 * k) + 2) (.int .u8 c)).setIfInBounds ((4 * k) + 3) (.int .u8 d) = bv (dgr hs (k + 1)) := by
  subst ha hb hc hd
  rw [bset, bset, bset, bset]
  congr 1
  have h1 := set_four ((List.range k).flatMap (fun i => dg4 (rg hs i))) (32 - 4 * k) (UInt8.ofNat (rg hs k / 16777216)) (UInt8.ofNat (rg hs k / 65536)) (UInt8.ofNat (rg hs k / 256)) (UInt8.ofNat (rg hs k)) (by omega)
  rw [dgf_len] at h1
  unfold dgr
  rw [h1, List.range_succ, List.flatMap_append, show 32 - 4 * (k + 1) = 32 - 4 * k - 4 by omega]
  simp [dg4]
def z3 (z : Sh) (total : Nat) : Sh := feed (pz z (padN z)) (tlr (lb total) 8)
/-- The digest's bytes at the end. -/
def shaEnd (z : Sh) (total : Nat) : List UInt8 := dgr (z3 z total).hs 8
theorem shaEnd_len (z : Sh) (total : Nat) : (shaEnd z total).length = 32 := dgr_len (Nat.le_refl 8)
theorem z3_ok {z : Sh} (h : z.Ok) (total : Nat) : (z3 z total).Ok := feed_ok _ (pz_ok h _)
theorem zsz : (bv (List.replicate 32 0)).size = 32 := rfl
theorem dsz (hs : List Nat) {k : Nat} (h : k ≤ 8) : (bv (dgr hs k)).size = 32 := (bv_size _).trans (dgr_len h)
end Go.Proofs.YtdjpokckamlccaaGreatDoor
namespace Go.Proofs.YtdjpokckamlccaaGreatDoor
open K
set_option linter.unusedVariables false
namespace K
theorem HP.dropM {w0 w w' : World} {M : List Nat} {R O : List (Nat × Obj)} (h : HP w0 M R O w) (i : Nat) {b : Nat} {o : Obj} (hi : O[i]? = some (b, o)) (hx : Ext [b] w w') : HP w0 M R (O.eraseIdx i) w' :=
  h.call hx _ (List.eraseIdx_sublist ..) (by
    intro k hk
    simp only [List.mem_cons, List.not_mem_nil, or_false] at hk
    subst hk
    exact List.mem_map.2 ⟨_, List.mem_of_getElem? hi, rfl⟩) (by
    intro e he hm
    simp only [List.mem_cons, List.not_mem_nil, or_false] at hm
    obtain ⟨j, hj⟩ := List.mem_iff_getElem?.1 he
    rw [List.getElem?_eraseIdx] at hj
    split at hj
    · rename_i hlt
      have := nodup_inj h.dist (i := j) (j := i) (x := b) (by simp [hj, hm]) (by simp [hi])
      omega
    · rename_i hlt
      have := nodup_inj h.dist (i := j + 1) (j := i) (x := b) (by simp [hj, hm]) (by simp [hi])
      omega)
/-- A call that gives a known value and whatever content to one own block. -/
theorem Eff.callD {C : Cx} {R O : List (Nat × Obj)} {Γ : Env} {o : Oper} {f : FuncId} {fn : Func} {c : Code} {xs : List Operand} {tys : Array TypeId} {vs : List Value} (v : Value) (i : Nat) {b : Nat} {ob : Obj} (ho : o.op = .call ⟨.value (.func f), xs.toArray, tys⟩) (hf : C.P.funcs[f]? = some fn)
    (hnm : (fn.name == "runtime.NumGoroutine") = false) (hb : fn.body = some c) (hx : opds Γ xs = some vs) (hi : O[i]? = some (b, ob))
    (h : ∀ w, HP C.w0 C.M R O w → Calls C.P f vs.toArray w fun e w' => e = .returned v ∧ Ext [b] w w') : Eff C R O Γ o Unit (fun _ => v) (fun _ => O.eraseIdx i) (fun _ => True) :=
  Eff.call ho hf hnm hb hx fun w hp => (h w hp).mono fun _ _ hh => ⟨(), trivial, hh.1, hp.dropM i hi hh.2⟩
end K
def H8 : List Nat := [1779033703, 3144134277, 1013904242, 2773480762, 1359893119, 2600822924, 528734635, 1541459225]
def sh0 : Sh := ⟨H8, List.replicate 64 0, 0⟩
theorem sh0_ok : sh0.Ok := ⟨rfl, rfl, fun i => by
  unfold sh0 H8 rg
  rcases i with _ | _ | _ | _ | _ | _ | _ | _ | i <;> simp, by decide⟩
def ssat (ss : List ByteArray) (i : Nat) : ByteArray := ss.getD i ByteArray.empty
def scat (ss : List ByteArray) : List UInt8 := ss.flatMap fun s => s.data.toList
def sz (ss : List ByteArray) (i : Nat) : Sh := feed sh0 (scat (ss.take i))
def tt (ss : List ByteArray) (i : Nat) : Nat := (scat (ss.take i)).length % 18446744073709551616
theorem take_ssat {ss : List ByteArray} {i : Nat} (h : i < ss.length) : ss.take (i + 1) = ss.take i ++ [ssat ss i] := by
  rw [List.take_succ_eq_append_getElem h]; simp [ssat, List.getElem?_eq_getElem h]
theorem scat_app (a b : List ByteArray) : scat (a ++ b) = scat a ++ scat b := List.flatMap_append ..
theorem scat_one (s : ByteArray) : scat [s] = s.data.toList := by simp [scat]
theorem sz_succ {ss : List ByteArray} {i : Nat} (h : i < ss.length) : feed (sz ss i) (ssat ss i).data.toList = sz ss (i + 1) := by
  unfold sz; rw [take_ssat h, scat_app, scat_one, feed_app]
theorem tt_succ {ss : List ByteArray} {i : Nat} (h : i < ss.length) : (tt ss i + (ssat ss i).size) % 18446744073709551616 = tt ss (i + 1) := by
  unfold tt; rw [take_ssat h, scat_app, scat_one, List.length_append]
  have : (ssat ss i).data.toList.length = (ssat ss i).size := by simp
  omega
theorem sz_ok (ss : List ByteArray) (i : Nat) : (sz ss i).Ok := feed_ok _ sh0_ok
/-- The digest of bytes. -/
def shaD (l : List UInt8) : List UInt8 := shaEnd (feed sh0 l) (l.length % 18446744073709551616)
theorem shaD_len (l : List UInt8) : (shaD l).length = 32 := shaEnd_len _ _
theorem sz_all (ss : List ByteArray) : shaEnd (sz ss ss.length) (tt ss ss.length) = shaD (scat ss) := by unfold sz tt shaD; rw [List.take_length]
theorem dz (l : List UInt8) : (bv (shaD l)).size = 32 := (bv_size _).trans (shaD_len l)
end Go.Proofs.YtdjpokckamlccaaGreatDoor
namespace Go.Proofs.YtdjpokckamlccaaGreatDoor
open K
set_option linter.unusedVariables false
set_option maxRecDepth 100000 in
theorem words (b : Nat) (hs : List Nat) (bl : List UInt8) (held total : Nat) (w : World) (hh : hs.length = 8) (hb : bl.length = 64) (hR : Has w [(b, .cells (stC hs bl held total) 208 (0, 0))]) :
    Calls Tryz.prog 176 #[.pointer (some ⟨b, 0, none⟩)] w fun e w' => e = .returned (.agg (wv (row bl 64))) ∧ Ext [] w w' := by
  refine enter (vs := [.pointer (some ⟨b, 0, none⟩)]) [] [(b, .cells (stC hs bl held total) 208 (0, 0))] [] Tryz.func176 rfl (by kernel_rfl) (HP.ofHas hR) ?_
  refine Cfg.begL rfl ?_
  refine CfgL.eff (o := _) rfl (by kernel_rfl) (by kernel_rfl) (Eff.alloc (z := (.agg (wv (List.replicate 64 0)))) rfl (by kernel_rfl)) ?_
  rintro r ⟨hr, nr⟩
  refine CfgL.done rfl ?_
  refine Cfg.begL rfl ?_
  refine CfgL.eff (o := _) rfl (by kernel_rfl) (by kernel_rfl) (Eff.alloc (z := (.agg (wv (List.replicate 64 0)))) rfl (by kernel_rfl)) ?_
  rintro xw ⟨hxw, nxw⟩
  refine CfgL.done rfl ?_
  refine Cfg.reg rfl [0, 2, 3, 10] [] (Γ' := [(10, [], .int .i64 0), (3, [], .pointer (some ⟨xw, 0, none⟩)), (2, [], .pointer (some ⟨r, 0, none⟩)), (0, [], .pointer (some ⟨b, 0, none⟩))]) (nd := (fun _ => [])) (fun _ => by kernel_rfl) trivial ?_
  refine Cfg.loop rfl (ι := Nat) (fun (t : Nat) => [(10, [], .int .i64 (t : Int)), (3, [], .pointer (some ⟨xw, 0, none⟩)), (2, [], .pointer (some ⟨r, 0, none⟩)), (0, [], .pointer (some ⟨b, 0, none⟩))]) (fun (t : Nat) => [(xw, .cells (wv (row bl t)) 274 (0, 0)), (r, .cells (wv (List.replicate 64 0)) 274 (0, 0))]) (fun (t : Nat) => (t ≤ 16)) (fun (t : Nat) => 16 - t) 0 ?_ (Conv.mk (by kernel_rfl)) (.cons_cons _ (.cons_cons _ .slnil)) ?_
  · exact Nat.zero_le _
  · rintro t ht
    refine Cfg.reg rfl [0, 2, 3, 10, 11] [] (Γ' := [(11, [], .bool (decide ((t : Int) < (16 : Int)))), (10, [], .int .i64 (t : Int)), (3, [], .pointer (some ⟨xw, 0, none⟩)), (2, [], .pointer (some ⟨r, 0, none⟩)), (0, [], .pointer (some ⟨b, 0, none⟩))]) (nd := (fun _ => [])) (fun _ => by kernel_rfl) trivial ?_
    refine Cfg.cond rfl (b := (decide ((t : Int) < (16 : Int)))) (by kernel_rfl) (fun c1r => ?_) (fun c1r => ?_)
    · have c1 : ((t : Int) < (16 : Int)) := (of_decide_eq_true c1r)
      refine Cfg.reg rfl [0, 2, 3, 4, 10] [] (Γ' := [(4, [], .int .i64 (t : Int)), (10, [], .int .i64 (t : Int)), (3, [], .pointer (some ⟨xw, 0, none⟩)), (2, [], .pointer (some ⟨r, 0, none⟩)), (0, [], .pointer (some ⟨b, 0, none⟩))]) (nd := (fun _ => [])) (fun _ => by kernel_rfl) trivial ?_
      refine Cfg.begA rfl (by kernel_rfl) [(r, .cells (wv (List.replicate 64 0)) 274 (0, 0))] ?_
      refine CfgA.pure [0, 1, 2, 3, 4, 5, 6, 7, 8, 9, 10, 11, 12, 13, 14, 15, 16, 17, 18, 19, 20, 21, 22, 23, 24, 25, 26, 27, 28, 29, 30, 31, 32, 33, 34, 35, 36, 37, 38, 39, 40, 41, 42] [(0, false, none), (0, false, none), (0, false, none), (0, false, none), (0, false, none), (0, false, none), (0, false, none), (0, false, some (.int .u8 (bt4 bl (4 * t) : Int))), (0, false, none), (0, false, none), (0, false, none), (0, false, none), (0, false, none), (0, false, none), (0, false, none), (0, false, none), (0, false, none), (0, false, some (.int .u8 (bt4 bl ((4 * t) + 1) : Int))), (0, false, none), (0, false, none), (0, false, none), (0, false, none), (0, false, none), (0, false, none), (0, false, none), (0, false, none), (0, false, none), (0, false, none), (0, false, some (.int .u8 (bt4 bl ((4 * t) + 2) : Int))), (0, false, none), (0, false, none), (0, false, none), (0, false, none), (0, false, none), (0, false, none), (0, false, none), (0, false, none), (0, false, none), (0, false, none), (0, false, some (.int .u8 (bt4 bl ((4 * t) + 3) : Int)))] (some [0, 2, 3, 10, 54, 55]) (l' := #[true, true, true, true, true, true, true, true, true, true, true, true, true, true, true, true, true, true, true, true, true, true, true, true, true, true, true, true, true, true, true, true, true, true, true, true, true, true, true, true, true, true, true, false]) (by kernel_rfl) (by kernel_rfl) (.cons _ (.cons_cons _ .slnil)) 1 rfl (Γ' := [(55, [], .pointer (some ⟨xw, t, none⟩)), (54, [], .int .u32 ((((((((((((bt4 bl (4 * t) : Int) * 16777216) % 4294967296)).toNat ||| ((((bt4 bl ((4 * t) + 1) : Int) * 65536) % 4294967296)).toNat : Nat) : Int)).toNat ||| ((((bt4 bl ((4 * t) + 2) : Int) * 256) % 4294967296)).toNat : Nat) : Int)).toNat ||| ((bt4 bl ((4 * t) + 3) : Int)).toNat : Nat) : Int)), (10, [], .int .i64 (t : Int)), (3, [], .pointer (some ⟨xw, 0, none⟩)), (2, [], .pointer (some ⟨r, 0, none⟩)), (0, [], .pointer (some ⟨b, 0, none⟩))]) (nd := (fun S => [((-9223372036854775808 : Int) ≤ (4 * (t : Int)) ∧ (4 * (t : Int)) ≤ 9223372036854775807), (0 ≤ (4 * (t : Int)) ∧ (4 * (t : Int)) < (64 : Int)), (∀ w1, S w1 → w1.cell? ⟨b, (addO 8 (4 * t)), none⟩ = some (.int .u8 (bt4 bl (4 * t) : Int))), ((0 : Int) ≤ (bt4 bl (4 * t) : Int) ∧ (bt4 bl (4 * t) : Int) ≤ 4294967295), (0 ≤ (24 : Int) ∧ 24 ≤ 32), ((-9223372036854775808 : Int) ≤ (4 * (t : Int)) ∧ (4 * (t : Int)) ≤ 9223372036854775807), ((-9223372036854775808 : Int) ≤ ((4 * (t : Int)) + 1) ∧ ((4 * (t : Int)) + 1) ≤ 9223372036854775807), (0 ≤ ((4 * (t : Int)) + 1) ∧ ((4 * (t : Int)) + 1) < (64 : Int)), (∀ w1, S w1 → w1.cell? ⟨b, (addO 8 ((4 * t) + 1)), none⟩ = some (.int .u8 (bt4 bl ((4 * t) + 1) : Int))), ((0 : Int) ≤ (bt4 bl ((4 * t) + 1) : Int) ∧ (bt4 bl ((4 * t) + 1) : Int) ≤ 4294967295), (0 ≤ (16 : Int) ∧ 16 ≤ 32), ((0 ≤ (((bt4 bl (4 * t) : Int) * 16777216) % 4294967296) ∧ (((bt4 bl (4 * t) : Int) * 16777216) % 4294967296) ≤ 4294967295) ∧ 0 ≤ (((bt4 bl ((4 * t) + 1) : Int) * 65536) % 4294967296) ∧ (((bt4 bl ((4 * t) + 1) : Int) * 65536) % 4294967296) ≤ 4294967295), ((-9223372036854775808 : Int) ≤ (4 * (t : Int)) ∧ (4 * (t : Int)) ≤ 9223372036854775807), ((-9223372036854775808 : Int) ≤ ((4 * (t : Int)) + 2) ∧ ((4 * (t : Int)) + 2) ≤ 9223372036854775807), (0 ≤ ((4 * (t : Int)) + 2) ∧ ((4 * (t : Int)) + 2) < (64 : Int)), (∀ w1, S w1 → w1.cell? ⟨b, (addO 8 ((4 * t) + 2)), none⟩ = some (.int .u8 (bt4 bl ((4 * t) + 2) : Int))), ((0 : Int) ≤ (bt4 bl ((4 * t) + 2) : Int) ∧ (bt4 bl ((4 * t) + 2) : Int) ≤ 4294967295), (0 ≤ (8 : Int) ∧ 8 ≤ 32), ((0 ≤ ((((((bt4 bl (4 * t) : Int) * 16777216) % 4294967296)).toNat ||| ((((bt4 bl ((4 * t) + 1) : Int) * 65536) % 4294967296)).toNat : Nat) : Int) ∧ ((((((bt4 bl (4 * t) : Int) * 16777216) % 4294967296)).toNat ||| ((((bt4 bl ((4 * t) + 1) : Int) * 65536) % 4294967296)).toNat : Nat) : Int) ≤ 4294967295) ∧ 0 ≤ (((bt4 bl ((4 * t) + 2) : Int) * 256) % 4294967296) ∧ (((bt4 bl ((4 * t) + 2) : Int) * 256) % 4294967296) ≤ 4294967295), ((-9223372036854775808 : Int) ≤ (4 * (t : Int)) ∧ (4 * (t : Int)) ≤ 9223372036854775807), ((-9223372036854775808 : Int) ≤ ((4 * (t : Int)) + 3) ∧ ((4 * (t : Int)) + 3) ≤ 9223372036854775807), (0 ≤ ((4 * (t : Int)) + 3) ∧ ((4 * (t : Int)) + 3) < (64 : Int)), (∀ w1, S w1 → w1.cell? ⟨b, (addO 8 ((4 * t) + 3)), none⟩ = some (.int .u8 (bt4 bl ((4 * t) + 3) : Int))), ((0 : Int) ≤ (bt4 bl ((4 * t) + 3) : Int) ∧ (bt4 bl ((4 * t) + 3) : Int) ≤ 4294967295), ((0 ≤ (((((((((bt4 bl (4 * t) : Int) * 16777216) % 4294967296)).toNat ||| ((((bt4 bl ((4 * t) + 1) : Int) * 65536) % 4294967296)).toNat : Nat) : Int)).toNat ||| ((((bt4 bl ((4 * t) + 2) : Int) * 256) % 4294967296)).toNat : Nat) : Int) ∧ (((((((((bt4 bl (4 * t) : Int) * 16777216) % 4294967296)).toNat ||| ((((bt4 bl ((4 * t) + 1) : Int) * 65536) % 4294967296)).toNat : Nat) : Int)).toNat ||| ((((bt4 bl ((4 * t) + 2) : Int) * 256) % 4294967296)).toNat : Nat) : Int) ≤ 4294967295) ∧ 0 ≤ (bt4 bl ((4 * t) + 3) : Int) ∧ (bt4 bl ((4 * t) + 3) : Int) ≤ 4294967295), (0 ≤ (t : Int) ∧ (t : Int) < (64 : Int))])) (fun _ => by kernel_rfl) ⟨(by omega), (by omega), (fun w1 h => h.rcell 0 rfl (by rw [addO_eq]; exact st_byte hh hb (by omega))), (by have := bt4_lt bl (4 * t); omega), (by omega), (by omega), (by omega), (by omega), (fun w1 h => h.rcell 0 rfl (by rw [addO_eq]; exact st_byte hh hb (by omega))), (by have := bt4_lt bl ((4 * t) + 1); omega), (by omega), (by have := bt4_lt bl (4 * t); have := bt4_lt bl ((4 * t) + 1); omega), (by omega), (by omega), (by omega), (fun w1 h => h.rcell 0 rfl (by rw [addO_eq]; exact st_byte hh hb (by omega))), (by have := bt4_lt bl ((4 * t) + 2); omega), (by omega), ⟨⟨Int.natCast_nonneg _, le_pow (b := 32) (Nat.or_lt_two_pow (by omega) (by omega))⟩, ⟨by omega, by omega⟩⟩, (by omega), (by omega), (by omega), (fun w1 h => h.rcell 0 rfl (by rw [addO_eq]; exact st_byte hh hb (by omega))), (by have := bt4_lt bl ((4 * t) + 3); omega), ⟨⟨Int.natCast_nonneg _, le_pow (b := 32) (Nat.or_lt_two_pow (tn_lt (Nat.or_lt_two_pow (by omega) (by omega))) (by omega))⟩, ⟨Int.natCast_nonneg _, le_pow (b := 32) (b84 _ _)⟩⟩, (by omega), trivial⟩ ?_
      refine CfgA.eff 43 (o := _) rfl (by kernel_rfl) (fuel' := 0) rfl (by kernel_rfl) (by kernel_rfl) (Eff.store1 (b := xw) (off := t) (v := .int .u32 ((((((((((((bt4 bl (4 * t) : Int) * 16777216) % 4294967296)).toNat ||| ((((bt4 bl ((4 * t) + 1) : Int) * 65536) % 4294967296)).toNat : Nat) : Int)).toNat ||| ((((bt4 bl ((4 * t) + 2) : Int) * 256) % 4294967296)).toNat : Nat) : Int)).toNat ||| ((bt4 bl ((4 * t) + 3) : Int)).toNat : Nat) : Int)) rfl (by kernel_rfl) (by kernel_rfl) rfl (by kernel_rfl) 0 (cs := (wv (row bl t))) (e := 274) (by kernel_rfl) (by rw [wsize]; omega)) (fun _ _ => (.cons _ (.cons_cons _ .slnil))) ?_
      rintro ⟨⟩ -
      refine CfgA.done (by kernel_rfl) ?_
      refine Conv.cfg (Γ' := [(10, [], .int .i64 (t : Int)), (3, [], .pointer (some ⟨xw, 0, none⟩)), (2, [], .pointer (some ⟨r, 0, none⟩)), (0, [], .pointer (some ⟨b, 0, none⟩))]) (Conv.mk (by kernel_rfl)) ?_
      refine Cfg.reg rfl [0, 2, 3, 10] [] (Γ' := [(10, [], .int .i64 ((t : Int) + 1)), (3, [], .pointer (some ⟨xw, 0, none⟩)), (2, [], .pointer (some ⟨r, 0, none⟩)), (0, [], .pointer (some ⟨b, 0, none⟩))]) (nd := (fun _ => [((-9223372036854775808 : Int) ≤ ((t : Int) + 1) ∧ ((t : Int) + 1) ≤ 9223372036854775807)])) (fun _ => by kernel_rfl) ⟨(by omega), trivial⟩ ?_
      refine Cfg.setO (O' := [(xw, .cells (wv (row bl (t + 1))) 274 (0, 0)), (r, .cells (wv (List.replicate 64 0)) 274 (0, 0))]) (congrArg (fun (xq : Array Value) => ([(xw, .cells xq 274 (0, 0)), (r, .cells (wv (List.replicate 64 0)) 274 (0, 0))] : List (Nat × Obj))) (row_step bl t (wnext_lo (by omega) (be4_eq _ _ _ _)))) ?_
      refine Cfg.again rfl (t + 1) (by show t + 1 ≤ 16; omega) (by show 16 - (t + 1) < 16 - t; omega) (Conv.mk (by kernel_rfl)) (.cons_cons _ (.cons_cons _ .slnil))
    · have c1 : (¬ ((t : Int) < (16 : Int))) := (of_decide_eq_false c1r)
      obtain rfl : t = 16 := by omega
      refine Conv.cfg (Γ' := [(3, [], .pointer (some ⟨xw, 0, none⟩)), (2, [], .pointer (some ⟨r, 0, none⟩)), (0, [], .pointer (some ⟨b, 0, none⟩))]) (Conv.mk (by kernel_rfl)) ?_
      refine Cfg.reg rfl [2, 3, 5] [] (Γ' := [(5, [], .int .i64 16), (3, [], .pointer (some ⟨xw, 0, none⟩)), (2, [], .pointer (some ⟨r, 0, none⟩))]) (nd := (fun _ => [])) (fun _ => by kernel_rfl) trivial ?_
      refine Cfg.loop rfl (ι := Nat) (fun (t : Nat) => [(5, [], .int .i64 (t : Int)), (3, [], .pointer (some ⟨xw, 0, none⟩)), (2, [], .pointer (some ⟨r, 0, none⟩))]) (fun (t : Nat) => [(xw, .cells (wv (row bl t)) 274 (0, 0)), (r, .cells (wv (List.replicate 64 0)) 274 (0, 0))]) (fun (t : Nat) => (16 ≤ t) ∧ (t ≤ 64)) (fun (t : Nat) => 64 - t) 16 ?_ (Conv.mk (by kernel_rfl)) (.cons_cons _ (.cons_cons _ .slnil)) ?_
      · exact ⟨Nat.le_refl _, by decide⟩
      · rintro t ⟨ht0, ht⟩
        refine Cfg.reg rfl [2, 3, 5, 58] [] (Γ' := [(58, [], .bool (decide ((t : Int) < (64 : Int)))), (5, [], .int .i64 (t : Int)), (3, [], .pointer (some ⟨xw, 0, none⟩)), (2, [], .pointer (some ⟨r, 0, none⟩))]) (nd := (fun _ => [])) (fun _ => by kernel_rfl) trivial ?_
        refine Cfg.cond rfl (b := (decide ((t : Int) < (64 : Int)))) (by kernel_rfl) (fun c2r => ?_) (fun c2r => ?_)
        · have c2 : ((t : Int) < (64 : Int)) := (of_decide_eq_true c2r)
          refine Cfg.regD rfl (by kernel_rfl) [2, 3, 5, 6, 7] [(0, false, none), (0, false, none), (0, false, none), (0, false, some (.int .u32 (rg (row bl t) (t - 15) : Int))), (0, false, none), (0, false, none), (0, false, none), (0, false, some (.int .u32 (rg (row bl t) (t - 2) : Int)))] (Γ' := [(7, [], .int .u32 (rg (row bl t) (t - 2) : Int)), (6, [], .int .u32 (rg (row bl t) (t - 15) : Int)), (5, [], .int .i64 (t : Int)), (3, [], .pointer (some ⟨xw, 0, none⟩)), (2, [], .pointer (some ⟨r, 0, none⟩))]) (nd := (fun S => [((-9223372036854775808 : Int) ≤ ((t : Int) - 15) ∧ ((t : Int) - 15) ≤ 9223372036854775807), (0 ≤ ((t : Int) - 15) ∧ ((t : Int) - 15) < (64 : Int)), (∀ w1, S w1 → w1.cell? ⟨xw, (((t : Int) - 15)).toNat, none⟩ = some (.int .u32 (rg (row bl t) (t - 15) : Int))), ((-9223372036854775808 : Int) ≤ ((t : Int) - 2) ∧ ((t : Int) - 2) ≤ 9223372036854775807), (0 ≤ ((t : Int) - 2) ∧ ((t : Int) - 2) < (64 : Int)), (∀ w1, S w1 → w1.cell? ⟨xw, (((t : Int) - 2)).toNat, none⟩ = some (.int .u32 (rg (row bl t) (t - 2) : Int)))])) (by kernel_rfl) (by kernel_rfl) (fun _ => by kernel_rfl) ⟨(by omega), (by omega), (fun w1 h => h.ocell 0 rfl (by rw [show (((t : Int) - 15)).toNat = (t - 15) by omega]; exact wv_get (row_len bl t) (by omega))), (by omega), (by omega), (fun w1 h => h.ocell 0 rfl (by rw [show (((t : Int) - 2)).toNat = (t - 2) by omega]; exact wv_get (row_len bl t) (by omega))), trivial⟩ ?_
          refine Cfg.begL rfl ?_
          refine CfgL.pure 1 [] none (Γ' := [(69, [], .int .u32 (rg (row bl t) (t - 15) : Int)), (7, [], .int .u32 (rg (row bl t) (t - 2) : Int)), (6, [], .int .u32 (rg (row bl t) (t - 15) : Int)), (5, [], .int .i64 (t : Int)), (3, [], .pointer (some ⟨xw, 0, none⟩)), (2, [], .pointer (some ⟨r, 0, none⟩))]) (nd := (fun _ => [])) (by kernel_rfl) (fun _ => by kernel_rfl) trivial ?_
          refine CfgL.eff (o := _) rfl (by kernel_rfl) (by kernel_rfl) (Eff.callA (vs := [.int .u32 (rg (row bl t) (t - 15) : Int), .int .i64 (-7)]) (.int .u32 (rotl (rg (row bl t) (t - 15)) 33554432 128 : Int)) rfl Tryz.func177 rfl rfl (by kernel_rfl) (fun w1 _ => rot25 _ w1 (row_lt bl t _))) ?_
          rintro ⟨⟩ -
          refine CfgL.pure 1 [] (some [2, 3, 5, 6, 7, 70, 71]) (Γ' := [(71, [], .int .u32 (rg (row bl t) (t - 15) : Int)), (70, [], .int .u32 (rotl (rg (row bl t) (t - 15)) 33554432 128 : Int)), (7, [], .int .u32 (rg (row bl t) (t - 2) : Int)), (6, [], .int .u32 (rg (row bl t) (t - 15) : Int)), (5, [], .int .i64 (t : Int)), (3, [], .pointer (some ⟨xw, 0, none⟩)), (2, [], .pointer (some ⟨r, 0, none⟩))]) (nd := (fun _ => [])) (by kernel_rfl) (fun _ => by kernel_rfl) trivial ?_
          refine CfgL.eff (o := _) rfl (by kernel_rfl) (by kernel_rfl) (Eff.callA (vs := [.int .u32 (rg (row bl t) (t - 15) : Int), .int .i64 (-18)]) (.int .u32 (rotl (rg (row bl t) (t - 15)) 16384 262144 : Int)) rfl Tryz.func177 rfl rfl (by kernel_rfl) (fun w1 _ => rot14 _ w1 (row_lt bl t _))) ?_
          rintro ⟨⟩ -
          refine CfgL.pure 5 [] (some [2, 3, 5, 7, 8]) (Γ' := [(8, [], .int .u32 (((((((rotl (rg (row bl t) (t - 15)) 33554432 128 : Int)).toNat ^^^ ((rotl (rg (row bl t) (t - 15)) 16384 262144 : Int)).toNat : Nat) : Int)).toNat ^^^ (((rg (row bl t) (t - 15) : Int) / 8)).toNat : Nat) : Int)), (7, [], .int .u32 (rg (row bl t) (t - 2) : Int)), (5, [], .int .i64 (t : Int)), (3, [], .pointer (some ⟨xw, 0, none⟩)), (2, [], .pointer (some ⟨r, 0, none⟩))]) (nd := (fun _ => [((0 ≤ (rotl (rg (row bl t) (t - 15)) 33554432 128 : Int) ∧ (rotl (rg (row bl t) (t - 15)) 33554432 128 : Int) ≤ 4294967295) ∧ 0 ≤ (rotl (rg (row bl t) (t - 15)) 16384 262144 : Int) ∧ (rotl (rg (row bl t) (t - 15)) 16384 262144 : Int) ≤ 4294967295), (0 ≤ (3 : Int) ∧ 3 ≤ 32), ((0 ≤ ((((rotl (rg (row bl t) (t - 15)) 33554432 128 : Int)).toNat ^^^ ((rotl (rg (row bl t) (t - 15)) 16384 262144 : Int)).toNat : Nat) : Int) ∧ ((((rotl (rg (row bl t) (t - 15)) 33554432 128 : Int)).toNat ^^^ ((rotl (rg (row bl t) (t - 15)) 16384 262144 : Int)).toNat : Nat) : Int) ≤ 4294967295) ∧ 0 ≤ ((rg (row bl t) (t - 15) : Int) / 8) ∧ ((rg (row bl t) (t - 15) : Int) / 8) ≤ 4294967295)])) (by kernel_rfl) (fun _ => by kernel_rfl) ⟨⟨⟨Int.natCast_nonneg _, le_pow (b := 32) (rotl_lt (row_lt bl t _))⟩, ⟨Int.natCast_nonneg _, le_pow (b := 32) (rotl_lt (row_lt bl t _))⟩⟩, (by omega), ⟨⟨Int.natCast_nonneg _, le_pow (b := 32) (Nat.xor_lt_two_pow (tn_lt (rotl_lt (row_lt bl t _))) (tn_lt (rotl_lt (row_lt bl t _))))⟩, ⟨Int.natCast_nonneg _, le_pow (b := 32) (Nat.lt_of_le_of_lt (Nat.div_le_self _ _) (row_lt bl t _))⟩⟩, trivial⟩ ?_
          refine CfgL.done rfl ?_
          refine Cfg.begL rfl ?_
          refine CfgL.pure 1 [] none (Γ' := [(77, [], .int .u32 (rg (row bl t) (t - 2) : Int)), (8, [], .int .u32 (((((((rotl (rg (row bl t) (t - 15)) 33554432 128 : Int)).toNat ^^^ ((rotl (rg (row bl t) (t - 15)) 16384 262144 : Int)).toNat : Nat) : Int)).toNat ^^^ (((rg (row bl t) (t - 15) : Int) / 8)).toNat : Nat) : Int)), (7, [], .int .u32 (rg (row bl t) (t - 2) : Int)), (5, [], .int .i64 (t : Int)), (3, [], .pointer (some ⟨xw, 0, none⟩)), (2, [], .pointer (some ⟨r, 0, none⟩))]) (nd := (fun _ => [])) (by kernel_rfl) (fun _ => by kernel_rfl) trivial ?_
          refine CfgL.eff (o := _) rfl (by kernel_rfl) (by kernel_rfl) (Eff.callA (vs := [.int .u32 (rg (row bl t) (t - 2) : Int), .int .i64 (-17)]) (.int .u32 (rotl (rg (row bl t) (t - 2)) 32768 131072 : Int)) rfl Tryz.func177 rfl rfl (by kernel_rfl) (fun w1 _ => rot15 _ w1 (row_lt bl t _))) ?_
          rintro ⟨⟩ -
          refine CfgL.pure 1 [] (some [2, 3, 5, 7, 8, 78, 79]) (Γ' := [(79, [], .int .u32 (rg (row bl t) (t - 2) : Int)), (78, [], .int .u32 (rotl (rg (row bl t) (t - 2)) 32768 131072 : Int)), (8, [], .int .u32 (((((((rotl (rg (row bl t) (t - 15)) 33554432 128 : Int)).toNat ^^^ ((rotl (rg (row bl t) (t - 15)) 16384 262144 : Int)).toNat : Nat) : Int)).toNat ^^^ (((rg (row bl t) (t - 15) : Int) / 8)).toNat : Nat) : Int)), (7, [], .int .u32 (rg (row bl t) (t - 2) : Int)), (5, [], .int .i64 (t : Int)), (3, [], .pointer (some ⟨xw, 0, none⟩)), (2, [], .pointer (some ⟨r, 0, none⟩))]) (nd := (fun _ => [])) (by kernel_rfl) (fun _ => by kernel_rfl) trivial ?_
          refine CfgL.eff (o := _) rfl (by kernel_rfl) (by kernel_rfl) (Eff.callA (vs := [.int .u32 (rg (row bl t) (t - 2) : Int), .int .i64 (-19)]) (.int .u32 (rotl (rg (row bl t) (t - 2)) 8192 524288 : Int)) rfl Tryz.func177 rfl rfl (by kernel_rfl) (fun w1 _ => rot13 _ w1 (row_lt bl t _))) ?_
          rintro ⟨⟩ -
          refine CfgL.pure 5 [] (some [2, 3, 5, 8, 9]) (Γ' := [(9, [], .int .u32 (((((((rotl (rg (row bl t) (t - 2)) 32768 131072 : Int)).toNat ^^^ ((rotl (rg (row bl t) (t - 2)) 8192 524288 : Int)).toNat : Nat) : Int)).toNat ^^^ (((rg (row bl t) (t - 2) : Int) / 1024)).toNat : Nat) : Int)), (8, [], .int .u32 (((((((rotl (rg (row bl t) (t - 15)) 33554432 128 : Int)).toNat ^^^ ((rotl (rg (row bl t) (t - 15)) 16384 262144 : Int)).toNat : Nat) : Int)).toNat ^^^ (((rg (row bl t) (t - 15) : Int) / 8)).toNat : Nat) : Int)), (5, [], .int .i64 (t : Int)), (3, [], .pointer (some ⟨xw, 0, none⟩)), (2, [], .pointer (some ⟨r, 0, none⟩))]) (nd := (fun _ => [((0 ≤ (rotl (rg (row bl t) (t - 2)) 32768 131072 : Int) ∧ (rotl (rg (row bl t) (t - 2)) 32768 131072 : Int) ≤ 4294967295) ∧ 0 ≤ (rotl (rg (row bl t) (t - 2)) 8192 524288 : Int) ∧ (rotl (rg (row bl t) (t - 2)) 8192 524288 : Int) ≤ 4294967295), (0 ≤ (10 : Int) ∧ 10 ≤ 32), ((0 ≤ ((((rotl (rg (row bl t) (t - 2)) 32768 131072 : Int)).toNat ^^^ ((rotl (rg (row bl t) (t - 2)) 8192 524288 : Int)).toNat : Nat) : Int) ∧ ((((rotl (rg (row bl t) (t - 2)) 32768 131072 : Int)).toNat ^^^ ((rotl (rg (row bl t) (t - 2)) 8192 524288 : Int)).toNat : Nat) : Int) ≤ 4294967295) ∧ 0 ≤ ((rg (row bl t) (t - 2) : Int) / 1024) ∧ ((rg (row bl t) (t - 2) : Int) / 1024) ≤ 4294967295)])) (by kernel_rfl) (fun _ => by kernel_rfl) ⟨⟨⟨Int.natCast_nonneg _, le_pow (b := 32) (rotl_lt (row_lt bl t _))⟩, ⟨Int.natCast_nonneg _, le_pow (b := 32) (rotl_lt (row_lt bl t _))⟩⟩, (by omega), ⟨⟨Int.natCast_nonneg _, le_pow (b := 32) (Nat.xor_lt_two_pow (tn_lt (rotl_lt (row_lt bl t _))) (tn_lt (rotl_lt (row_lt bl t _))))⟩, ⟨Int.natCast_nonneg _, le_pow (b := 32) (Nat.lt_of_le_of_lt (Nat.div_le_self _ _) (row_lt bl t _))⟩⟩, trivial⟩ ?_
          refine CfgL.done rfl ?_
          refine Cfg.begA rfl (by kernel_rfl) [(r, .cells (wv (List.replicate 64 0)) 274 (0, 0))] ?_
          refine CfgA.pure [0, 1, 2, 3, 4, 7, 9, 10, 11] [] (some [2, 3, 5, 85, 86, 89, 92, 96]) (l' := #[true, true, true, true, true, false, false, true, false, true, true, true, false, false, false, false]) (by kernel_rfl) (by kernel_rfl) (.cons _ (.cons_cons _ .slnil)) 7 rfl (Γ' := [(96, [], .pointer (some ⟨xw, (((t : Int) - 16)).toNat, none⟩)), (92, [], .int .u32 (((((((rotl (rg (row bl t) (t - 15)) 33554432 128 : Int)).toNat ^^^ ((rotl (rg (row bl t) (t - 15)) 16384 262144 : Int)).toNat : Nat) : Int)).toNat ^^^ (((rg (row bl t) (t - 15) : Int) / 8)).toNat : Nat) : Int)), (89, [], .pointer (some ⟨xw, (((t : Int) - 7)).toNat, none⟩)), (86, [], .int .u32 (((((((rotl (rg (row bl t) (t - 2)) 32768 131072 : Int)).toNat ^^^ ((rotl (rg (row bl t) (t - 2)) 8192 524288 : Int)).toNat : Nat) : Int)).toNat ^^^ (((rg (row bl t) (t - 2) : Int) / 1024)).toNat : Nat) : Int)), (85, [], .int .i64 (t : Int)), (5, [], .int .i64 (t : Int)), (3, [], .pointer (some ⟨xw, 0, none⟩)), (2, [], .pointer (some ⟨r, 0, none⟩))]) (nd := (fun _ => [((-9223372036854775808 : Int) ≤ ((t : Int) - 7) ∧ ((t : Int) - 7) ≤ 9223372036854775807), (0 ≤ ((t : Int) - 7) ∧ ((t : Int) - 7) < (64 : Int)), ((-9223372036854775808 : Int) ≤ ((t : Int) - 16) ∧ ((t : Int) - 16) ≤ 9223372036854775807), (0 ≤ ((t : Int) - 16) ∧ ((t : Int) - 16) < (64 : Int))])) (fun _ => by kernel_rfl) ⟨(by omega), (by omega), (by omega), (by omega), trivial⟩ ?_
          refine CfgA.two 5 12 (by kernel_rfl) (fuel' := 6) rfl ?_ ?_
          ·
            refine CfgI.eff (o := _) rfl (by kernel_rfl) (by kernel_rfl) (Eff.quiet (raw := false) (orc := some (.int .u32 (rg (row bl t) (t - 7) : Int))) (v := .int .u32 (rg (row bl t) (t - 7) : Int)) (nd := (fun S => [(∀ w1, S w1 → w1.cell? ⟨xw, (((t : Int) - 7)).toNat, none⟩ = some (.int .u32 (rg (row bl t) (t - 7) : Int)))])) (fun _ => by kernel_rfl) ⟨(fun w1 h => h.ocell 0 rfl (by rw [show (((t : Int) - 7)).toNat = (t - 7) by omega]; exact wv_get (row_len bl t) (by omega))), trivial⟩ (by kernel_rfl)) (fun _ _ => (.cons _ (.cons_cons _ .slnil))) ?_
            rintro ⟨⟩ -
            refine CfgA.pure [6, 8] [] (some [2, 3, 5, 85, 93, 96]) (l' := #[true, true, true, true, true, true, true, true, true, true, true, true, false, false, false, false]) (by kernel_rfl) (by kernel_rfl) (.cons _ (.cons_cons _ .slnil)) 4 rfl (Γ' := [(93, [], .int .u32 (((((((((((rotl (rg (row bl t) (t - 2)) 32768 131072 : Int)).toNat ^^^ ((rotl (rg (row bl t) (t - 2)) 8192 524288 : Int)).toNat : Nat) : Int)).toNat ^^^ (((rg (row bl t) (t - 2) : Int) / 1024)).toNat : Nat) : Int) + (rg (row bl t) (t - 7) : Int)) % 4294967296) + (((((((rotl (rg (row bl t) (t - 15)) 33554432 128 : Int)).toNat ^^^ ((rotl (rg (row bl t) (t - 15)) 16384 262144 : Int)).toNat : Nat) : Int)).toNat ^^^ (((rg (row bl t) (t - 15) : Int) / 8)).toNat : Nat) : Int)) % 4294967296)), (96, [], .pointer (some ⟨xw, (((t : Int) - 16)).toNat, none⟩)), (85, [], .int .i64 (t : Int)), (5, [], .int .i64 (t : Int)), (3, [], .pointer (some ⟨xw, 0, none⟩)), (2, [], .pointer (some ⟨r, 0, none⟩))]) (nd := (fun _ => [])) (fun _ => by kernel_rfl) trivial ?_
            refine CfgA.eff 12 (o := _) rfl (by kernel_rfl) (fuel' := 3) rfl (by kernel_rfl) (by kernel_rfl) (Eff.quiet (raw := false) (orc := some (.int .u32 (rg (row bl t) (t - 16) : Int))) (v := .int .u32 (rg (row bl t) (t - 16) : Int)) (nd := (fun S => [(∀ w1, S w1 → w1.cell? ⟨xw, (((t : Int) - 16)).toNat, none⟩ = some (.int .u32 (rg (row bl t) (t - 16) : Int)))])) (fun _ => by kernel_rfl) ⟨(fun w1 h => h.ocell 0 rfl (by rw [show (((t : Int) - 16)).toNat = (t - 16) by omega]; exact wv_get (row_len bl t) (by omega))), trivial⟩ (by kernel_rfl)) (fun _ _ => (.cons _ (.cons_cons _ .slnil))) ?_
            rintro ⟨⟩ -
            refine CfgA.pure [13, 14] [] (some [2, 3, 5, 98, 99]) (l' := #[true, true, true, true, true, true, true, true, true, true, true, true, true, true, true, false]) (by kernel_rfl) (by kernel_rfl) (.cons _ (.cons_cons _ .slnil)) 1 rfl (Γ' := [(99, [], .pointer (some ⟨xw, t, none⟩)), (98, [], .int .u32 (((((((((((((rotl (rg (row bl t) (t - 2)) 32768 131072 : Int)).toNat ^^^ ((rotl (rg (row bl t) (t - 2)) 8192 524288 : Int)).toNat : Nat) : Int)).toNat ^^^ (((rg (row bl t) (t - 2) : Int) / 1024)).toNat : Nat) : Int) + (rg (row bl t) (t - 7) : Int)) % 4294967296) + (((((((rotl (rg (row bl t) (t - 15)) 33554432 128 : Int)).toNat ^^^ ((rotl (rg (row bl t) (t - 15)) 16384 262144 : Int)).toNat : Nat) : Int)).toNat ^^^ (((rg (row bl t) (t - 15) : Int) / 8)).toNat : Nat) : Int)) % 4294967296) + (rg (row bl t) (t - 16) : Int)) % 4294967296)), (5, [], .int .i64 (t : Int)), (3, [], .pointer (some ⟨xw, 0, none⟩)), (2, [], .pointer (some ⟨r, 0, none⟩))]) (nd := (fun _ => [(0 ≤ (t : Int) ∧ (t : Int) < (64 : Int))])) (fun _ => by kernel_rfl) ⟨(by omega), trivial⟩ ?_
            refine CfgA.eff 15 (o := _) rfl (by kernel_rfl) (fuel' := 0) rfl (by kernel_rfl) (by kernel_rfl) (Eff.store1 (b := xw) (off := t) (v := .int .u32 (((((((((((((rotl (rg (row bl t) (t - 2)) 32768 131072 : Int)).toNat ^^^ ((rotl (rg (row bl t) (t - 2)) 8192 524288 : Int)).toNat : Nat) : Int)).toNat ^^^ (((rg (row bl t) (t - 2) : Int) / 1024)).toNat : Nat) : Int) + (rg (row bl t) (t - 7) : Int)) % 4294967296) + (((((((rotl (rg (row bl t) (t - 15)) 33554432 128 : Int)).toNat ^^^ ((rotl (rg (row bl t) (t - 15)) 16384 262144 : Int)).toNat : Nat) : Int)).toNat ^^^ (((rg (row bl t) (t - 15) : Int) / 8)).toNat : Nat) : Int)) % 4294967296) + (rg (row bl t) (t - 16) : Int)) % 4294967296)) rfl (by kernel_rfl) (by kernel_rfl) rfl (by kernel_rfl) 0 (cs := (wv (row bl t))) (e := 274) (by kernel_rfl) (by rw [wsize]; omega)) (fun _ _ => (.cons _ (.cons_cons _ .slnil))) ?_
            rintro ⟨⟩ -
            refine CfgA.done (by kernel_rfl) ?_
            refine Conv.cfg (Γ' := [(5, [], .int .i64 (t : Int)), (3, [], .pointer (some ⟨xw, 0, none⟩)), (2, [], .pointer (some ⟨r, 0, none⟩))]) (Conv.mk (by kernel_rfl)) ?_
            refine Cfg.reg rfl [2, 3, 5] [] (Γ' := [(5, [], .int .i64 ((t : Int) + 1)), (3, [], .pointer (some ⟨xw, 0, none⟩)), (2, [], .pointer (some ⟨r, 0, none⟩))]) (nd := (fun _ => [((-9223372036854775808 : Int) ≤ ((t : Int) + 1) ∧ ((t : Int) + 1) ≤ 9223372036854775807)])) (fun _ => by kernel_rfl) ⟨(by omega), trivial⟩ ?_
            refine Cfg.setO (O' := [(xw, .cells (wv (row bl (t + 1))) 274 (0, 0)), (r, .cells (wv (List.replicate 64 0)) 274 (0, 0))]) (congrArg (fun (xq : Array Value) => ([(xw, .cells xq 274 (0, 0)), (r, .cells (wv (List.replicate 64 0)) 274 (0, 0))] : List (Nat × Obj))) (row_step bl t (wnext_hi (by omega) (wn_eq _ _ _ _)))) ?_
            refine Cfg.again rfl (t + 1) ⟨by omega, by omega⟩ (by show 64 - (t + 1) < 64 - t; omega) (Conv.mk (by kernel_rfl)) (.cons_cons _ (.cons_cons _ .slnil))
          ·
            refine CfgI.eff (o := _) rfl (by kernel_rfl) (by kernel_rfl) (Eff.quiet (raw := false) (orc := some (.int .u32 (rg (row bl t) (t - 16) : Int))) (v := .int .u32 (rg (row bl t) (t - 16) : Int)) (nd := (fun S => [(∀ w1, S w1 → w1.cell? ⟨xw, (((t : Int) - 16)).toNat, none⟩ = some (.int .u32 (rg (row bl t) (t - 16) : Int)))])) (fun _ => by kernel_rfl) ⟨(fun w1 h => h.ocell 0 rfl (by rw [show (((t : Int) - 16)).toNat = (t - 16) by omega]; exact wv_get (row_len bl t) (by omega))), trivial⟩ (by kernel_rfl)) (fun _ _ => (.cons _ (.cons_cons _ .slnil))) ?_
            rintro ⟨⟩ -
            refine CfgA.eff 5 (o := _) rfl (by kernel_rfl) (fuel' := 5) rfl (by kernel_rfl) (by kernel_rfl) (Eff.quiet (raw := false) (orc := some (.int .u32 (rg (row bl t) (t - 7) : Int))) (v := .int .u32 (rg (row bl t) (t - 7) : Int)) (nd := (fun S => [(∀ w1, S w1 → w1.cell? ⟨xw, (((t : Int) - 7)).toNat, none⟩ = some (.int .u32 (rg (row bl t) (t - 7) : Int)))])) (fun _ => by kernel_rfl) ⟨(fun w1 h => h.ocell 0 rfl (by rw [show (((t : Int) - 7)).toNat = (t - 7) by omega]; exact wv_get (row_len bl t) (by omega))), trivial⟩ (by kernel_rfl)) (fun _ _ => (.cons _ (.cons_cons _ .slnil))) ?_
            rintro ⟨⟩ -
            refine CfgA.pure [6, 8, 13, 14] [] (some [2, 3, 5, 98, 99]) (l' := #[true, true, true, true, true, true, true, true, true, true, true, true, true, true, true, false]) (by kernel_rfl) (by kernel_rfl) (.cons _ (.cons_cons _ .slnil)) 1 rfl (Γ' := [(99, [], .pointer (some ⟨xw, t, none⟩)), (98, [], .int .u32 (((((((((((((rotl (rg (row bl t) (t - 2)) 32768 131072 : Int)).toNat ^^^ ((rotl (rg (row bl t) (t - 2)) 8192 524288 : Int)).toNat : Nat) : Int)).toNat ^^^ (((rg (row bl t) (t - 2) : Int) / 1024)).toNat : Nat) : Int) + (rg (row bl t) (t - 7) : Int)) % 4294967296) + (((((((rotl (rg (row bl t) (t - 15)) 33554432 128 : Int)).toNat ^^^ ((rotl (rg (row bl t) (t - 15)) 16384 262144 : Int)).toNat : Nat) : Int)).toNat ^^^ (((rg (row bl t) (t - 15) : Int) / 8)).toNat : Nat) : Int)) % 4294967296) + (rg (row bl t) (t - 16) : Int)) % 4294967296)), (5, [], .int .i64 (t : Int)), (3, [], .pointer (some ⟨xw, 0, none⟩)), (2, [], .pointer (some ⟨r, 0, none⟩))]) (nd := (fun _ => [(0 ≤ (t : Int) ∧ (t : Int) < (64 : Int))])) (fun _ => by kernel_rfl) ⟨(by omega), trivial⟩ ?_
            refine CfgA.eff 15 (o := _) rfl (by kernel_rfl) (fuel' := 0) rfl (by kernel_rfl) (by kernel_rfl) (Eff.store1 (b := xw) (off := t) (v := .int .u32 (((((((((((((rotl (rg (row bl t) (t - 2)) 32768 131072 : Int)).toNat ^^^ ((rotl (rg (row bl t) (t - 2)) 8192 524288 : Int)).toNat : Nat) : Int)).toNat ^^^ (((rg (row bl t) (t - 2) : Int) / 1024)).toNat : Nat) : Int) + (rg (row bl t) (t - 7) : Int)) % 4294967296) + (((((((rotl (rg (row bl t) (t - 15)) 33554432 128 : Int)).toNat ^^^ ((rotl (rg (row bl t) (t - 15)) 16384 262144 : Int)).toNat : Nat) : Int)).toNat ^^^ (((rg (row bl t) (t - 15) : Int) / 8)).toNat : Nat) : Int)) % 4294967296) + (rg (row bl t) (t - 16) : Int)) % 4294967296)) rfl (by kernel_rfl) (by kernel_rfl) rfl (by kernel_rfl) 0 (cs := (wv (row bl t))) (e := 274) (by kernel_rfl) (by rw [wsize]; omega)) (fun _ _ => (.cons _ (.cons_cons _ .slnil))) ?_
            rintro ⟨⟩ -
            refine CfgA.done (by kernel_rfl) ?_
            refine Conv.cfg (Γ' := [(5, [], .int .i64 (t : Int)), (3, [], .pointer (some ⟨xw, 0, none⟩)), (2, [], .pointer (some ⟨r, 0, none⟩))]) (Conv.mk (by kernel_rfl)) ?_
            refine Cfg.reg rfl [2, 3, 5] [] (Γ' := [(5, [], .int .i64 ((t : Int) + 1)), (3, [], .pointer (some ⟨xw, 0, none⟩)), (2, [], .pointer (some ⟨r, 0, none⟩))]) (nd := (fun _ => [((-9223372036854775808 : Int) ≤ ((t : Int) + 1) ∧ ((t : Int) + 1) ≤ 9223372036854775807)])) (fun _ => by kernel_rfl) ⟨(by omega), trivial⟩ ?_
            refine Cfg.setO (O' := [(xw, .cells (wv (row bl (t + 1))) 274 (0, 0)), (r, .cells (wv (List.replicate 64 0)) 274 (0, 0))]) (congrArg (fun (xq : Array Value) => ([(xw, .cells xq 274 (0, 0)), (r, .cells (wv (List.replicate 64 0)) 274 (0, 0))] : List (Nat × Obj))) (row_step bl t (wnext_hi (by omega) (wn_eq _ _ _ _)))) ?_
            refine Cfg.again rfl (t + 1) ⟨by omega, by omega⟩ (by show 64 - (t + 1) < 64 - t; omega) (Conv.mk (by kernel_rfl)) (.cons_cons _ (.cons_cons _ .slnil))
        · have c2 : (¬ ((t : Int) < (64 : Int))) := (of_decide_eq_false c2r)
          refine Cfg.begL rfl ?_
          refine CfgL.pure 1 [(0, false, some (.agg (wv (row bl t))))] (some [2, 100]) (Γ' := [(100, [], .agg (wv (row bl t))), (2, [], .pointer (some ⟨r, 0, none⟩))]) (nd := (fun S => [(∀ w1, S w1 → (loadVar 274 ⟨xw, 0, none⟩).run Tryz.prog w1 = .ok (.agg (wv (row bl t))) w1)])) (by kernel_rfl) (fun _ => by kernel_rfl) ⟨(fun w1 h => h.oload 0 rfl Tryz.underlying274 rfl (n := 64) (by kernel_rfl) (wsize bl t)), trivial⟩ ?_
          refine CfgL.eff (o := _) rfl (by kernel_rfl) (by kernel_rfl) (Eff.storeN (b := r) (off := 0) (vs := (wv (row bl t))) (n := 64) rfl (by kernel_rfl) (by kernel_rfl) (by kernel_rfl) (wsize bl t) (all_wv _) 1 (cs := (wv (List.replicate 64 0))) (e := 274) (by kernel_rfl) (by rw [show wv (List.replicate 64 0) = wv (row bl 0) from rfl, wsize]; omega)) ?_
          rintro ⟨⟩ -
          refine CfgL.setO (O' := [(xw, .cells (wv (row bl t)) 274 (0, 0)), (r, .cells (wv (row bl t)) 274 (0, 0))]) (congrArg (fun (xq : Array Value) => ([(xw, .cells (wv (row bl t)) 274 (0, 0)), (r, .cells xq 274 (0, 0))] : List (Nat × Obj))) (spl_all ((wsize bl t).trans (wsize bl 0).symm))) ?_
          refine CfgL.done rfl ?_
          refine Conv.cfg (Γ' := [(2, [], .pointer (some ⟨r, 0, none⟩))]) (Conv.mk (by kernel_rfl)) ?_
          refine Cfg.ret rfl (rs := [.cell 2 274]) rfl [.agg (wv (row bl t))] ⟨⟨_, by kernel_rfl, (fun w1 h => h.oload 1 rfl Tryz.underlying274 rfl (n := 64) (by kernel_rfl) (wsize bl t))⟩, trivial⟩ (fun w1 hp => ?_)
          obtain rfl : t = 64 := by omega
          exact ⟨rfl, hp.ext⟩
end Go.Proofs.YtdjpokckamlccaaGreatDoor
namespace Go.Proofs.YtdjpokckamlccaaGreatDoor
open K
set_option linter.unusedVariables false
set_option maxRecDepth 100000 in
theorem shaMix (b : Nat) (hs : List Nat) (bl : List UInt8) (held total : Nat) {kt : Array Value} {t0 : TypeId} {fr0 : Nat × Nat} (w : World) (hh : hs.length = 8) (hb : bl.length = 64) (hlt : ∀ i, rg hs i < 2 ^ 32) (hR : Has w [(0, .cells kt t0 fr0)]) (hS : w.heap[b]? = some (.cells (stC hs bl held total) 208 (0, 0))) (hne : b ≠ 0) (hK : KT kt := by assumption) :
    Calls Tryz.prog 110 #[.pointer (some ⟨b, 0, none⟩)] w fun e w' => e = .returned (.tuple #[]) ∧ Ext [b] w w' ∧ w'.heap[b]? = some (.cells (stC (mixF hs bl) bl held total) 208 (0, 0)) := by
  refine enter (vs := [.pointer (some ⟨b, 0, none⟩)]) [b] [(0, .cells kt t0 fr0)] [(b, .cells (stC hs bl held total) 208 (0, 0))] Tryz.func110 rfl (by kernel_rfl) (HP.startM hR hS (by simpa using hne)) ?_
  refine Cfg.begL rfl ?_
  refine CfgL.pure 1 [] none (Γ' := [(20, [], .pointer (some ⟨b, 0, none⟩)), (0, [], .pointer (some ⟨b, 0, none⟩))]) (nd := (fun _ => [])) (by kernel_rfl) (fun _ => by kernel_rfl) trivial ?_
  refine CfgL.eff (o := _) rfl (by kernel_rfl) (by kernel_rfl) (Eff.callA (vs := [.pointer (some ⟨b, 0, none⟩)]) (.agg (wv (row bl 64))) rfl Tryz.func176 rfl rfl (by kernel_rfl) (fun w1 h => words b hs bl held total w1 hh hb (h.has (fun e he => he)))) ?_
  rintro ⟨⟩ -
  refine CfgL.eff (o := _) rfl (by kernel_rfl) (by kernel_rfl) (Eff.alloc (z := (.agg (wv (List.replicate 64 0)))) rfl (by kernel_rfl)) ?_
  rintro xw ⟨hxw, nxw⟩
  refine CfgL.eff (o := _) rfl (by kernel_rfl) (by kernel_rfl) (Eff.storeN (b := xw) (off := 0) (vs := (wv (row bl 64))) (n := 64) rfl (by kernel_rfl) (by kernel_rfl) (by kernel_rfl) (wsize bl 64) (all_wv _) 0 (cs := (wv (List.replicate 64 0))) (e := 274) (by kernel_rfl) (by rw [show wv (List.replicate 64 0) = wv (row bl 0) from rfl, wsize]; omega)) ?_
  rintro ⟨⟩ -
  refine CfgL.setO (O' := [(xw, .cells (wv (row bl 64)) 274 (0, 0)), (b, .cells (stC hs bl held total) 208 (0, 0))]) (congrArg (fun (xq : Array Value) => ([(xw, .cells xq 274 (0, 0)), (b, .cells (stC hs bl held total) 208 (0, 0))] : List (Nat × Obj))) (spl_all ((wsize bl 64).trans (wsize bl 0).symm))) ?_
  refine CfgL.done rfl ?_
  refine Conv.cfg (Γ' := [(2, [], .pointer (some ⟨xw, 0, none⟩)), (0, [], .pointer (some ⟨b, 0, none⟩))]) (Conv.mk (by kernel_rfl)) ?_
  refine Cfg.regD rfl (by kernel_rfl) [0, 2, 3, 4, 5, 6] [(0, false, none), (0, false, none), (0, false, none), (0, false, none), (0, false, some (.int .u32 (rg hs 0 : Int))), (0, false, none), (0, false, none), (0, false, none), (0, false, none), (0, false, some (.int .u32 (rg hs 1 : Int))), (0, false, none), (0, false, none), (0, false, none), (0, false, none), (0, false, some (.int .u32 (rg hs 2 : Int))), (0, false, none), (0, false, none), (0, false, none), (0, false, none), (0, false, some (.int .u32 (rg hs 3 : Int)))] (Γ' := [(6, [], .int .u32 (rg hs 3 : Int)), (5, [], .int .u32 (rg hs 2 : Int)), (4, [], .int .u32 (rg hs 1 : Int)), (3, [], .int .u32 (rg hs 0 : Int)), (2, [], .pointer (some ⟨xw, 0, none⟩)), (0, [], .pointer (some ⟨b, 0, none⟩))]) (nd := (fun S => [(0 ≤ (0 : Int) ∧ (0 : Int) < (8 : Int)), (∀ w1, S w1 → w1.cell? ⟨b, 0, none⟩ = some (.int .u32 (rg hs 0 : Int))), (0 ≤ (1 : Int) ∧ (1 : Int) < (8 : Int)), (∀ w1, S w1 → w1.cell? ⟨b, 1, none⟩ = some (.int .u32 (rg hs 1 : Int))), (0 ≤ (2 : Int) ∧ (2 : Int) < (8 : Int)), (∀ w1, S w1 → w1.cell? ⟨b, 2, none⟩ = some (.int .u32 (rg hs 2 : Int))), (0 ≤ (3 : Int) ∧ (3 : Int) < (8 : Int)), (∀ w1, S w1 → w1.cell? ⟨b, 3, none⟩ = some (.int .u32 (rg hs 3 : Int)))])) (by kernel_rfl) (by kernel_rfl) (fun _ => by kernel_rfl) ⟨(by omega), (fun w1 h => h.ocell 1 rfl (st_sum hh (by omega))), (by omega), (fun w1 h => h.ocell 1 rfl (st_sum hh (by omega))), (by omega), (fun w1 h => h.ocell 1 rfl (st_sum hh (by omega))), (by omega), (fun w1 h => h.ocell 1 rfl (st_sum hh (by omega))), trivial⟩ ?_
  refine Cfg.regD rfl (by kernel_rfl) [0, 2, 3, 4, 5, 6, 7, 8, 9, 10] [(0, false, none), (0, false, none), (0, false, none), (0, false, none), (0, false, some (.int .u32 (rg hs 4 : Int))), (0, false, none), (0, false, none), (0, false, none), (0, false, none), (0, false, some (.int .u32 (rg hs 5 : Int))), (0, false, none), (0, false, none), (0, false, none), (0, false, none), (0, false, some (.int .u32 (rg hs 6 : Int))), (0, false, none), (0, false, none), (0, false, none), (0, false, none), (0, false, some (.int .u32 (rg hs 7 : Int)))] (Γ' := [(10, [], .int .u32 (rg hs 7 : Int)), (9, [], .int .u32 (rg hs 6 : Int)), (8, [], .int .u32 (rg hs 5 : Int)), (7, [], .int .u32 (rg hs 4 : Int)), (6, [], .int .u32 (rg hs 3 : Int)), (5, [], .int .u32 (rg hs 2 : Int)), (4, [], .int .u32 (rg hs 1 : Int)), (3, [], .int .u32 (rg hs 0 : Int)), (2, [], .pointer (some ⟨xw, 0, none⟩)), (0, [], .pointer (some ⟨b, 0, none⟩))]) (nd := (fun S => [(0 ≤ (4 : Int) ∧ (4 : Int) < (8 : Int)), (∀ w1, S w1 → w1.cell? ⟨b, 4, none⟩ = some (.int .u32 (rg hs 4 : Int))), (0 ≤ (5 : Int) ∧ (5 : Int) < (8 : Int)), (∀ w1, S w1 → w1.cell? ⟨b, 5, none⟩ = some (.int .u32 (rg hs 5 : Int))), (0 ≤ (6 : Int) ∧ (6 : Int) < (8 : Int)), (∀ w1, S w1 → w1.cell? ⟨b, 6, none⟩ = some (.int .u32 (rg hs 6 : Int))), (0 ≤ (7 : Int) ∧ (7 : Int) < (8 : Int)), (∀ w1, S w1 → w1.cell? ⟨b, 7, none⟩ = some (.int .u32 (rg hs 7 : Int)))])) (by kernel_rfl) (by kernel_rfl) (fun _ => by kernel_rfl) ⟨(by omega), (fun w1 h => h.ocell 1 rfl (st_sum hh (by omega))), (by omega), (fun w1 h => h.ocell 1 rfl (st_sum hh (by omega))), (by omega), (fun w1 h => h.ocell 1 rfl (st_sum hh (by omega))), (by omega), (fun w1 h => h.ocell 1 rfl (st_sum hh (by omega))), trivial⟩ ?_
  refine Cfg.reg rfl [0, 2, 3, 4, 5, 6, 7, 8, 9, 10, 62] [] (Γ' := [(62, [], .int .i64 0), (10, [], .int .u32 (rg hs 7 : Int)), (9, [], .int .u32 (rg hs 6 : Int)), (8, [], .int .u32 (rg hs 5 : Int)), (7, [], .int .u32 (rg hs 4 : Int)), (6, [], .int .u32 (rg hs 3 : Int)), (5, [], .int .u32 (rg hs 2 : Int)), (4, [], .int .u32 (rg hs 1 : Int)), (3, [], .int .u32 (rg hs 0 : Int)), (2, [], .pointer (some ⟨xw, 0, none⟩)), (0, [], .pointer (some ⟨b, 0, none⟩))]) (nd := (fun _ => [])) (fun _ => by kernel_rfl) trivial ?_
  refine Cfg.loop rfl (ι := Nat) (fun (t : Nat) => [(62, [], .int .i64 (t : Int)), (10, [], .int .u32 ((rv hs bl t).h : Int)), (9, [], .int .u32 ((rv hs bl t).g : Int)), (8, [], .int .u32 ((rv hs bl t).f : Int)), (7, [], .int .u32 ((rv hs bl t).e : Int)), (6, [], .int .u32 ((rv hs bl t).d : Int)), (5, [], .int .u32 ((rv hs bl t).c : Int)), (4, [], .int .u32 ((rv hs bl t).b : Int)), (3, [], .int .u32 ((rv hs bl t).a : Int)), (2, [], .pointer (some ⟨xw, 0, none⟩)), (0, [], .pointer (some ⟨b, 0, none⟩))]) (fun (t : Nat) => [(xw, .cells (wv (row bl 64)) 274 (0, 0)), (b, .cells (stC hs bl held total) 208 (0, 0))]) (fun (t : Nat) => (t ≤ 64)) (fun (t : Nat) => 64 - t) 0 ?_ (Conv.mk (by kernel_rfl)) (.cons_cons _ (.cons_cons _ .slnil)) ?_
  · exact Nat.zero_le _
  · rintro t ht
    have ok := rv_ok hlt bl t
    refine Cfg.reg rfl [0, 2, 3, 4, 5, 6, 7, 8, 9, 10, 62, 63] [] (Γ' := [(63, [], .bool (decide ((t : Int) < (64 : Int)))), (62, [], .int .i64 (t : Int)), (10, [], .int .u32 ((rv hs bl t).h : Int)), (9, [], .int .u32 ((rv hs bl t).g : Int)), (8, [], .int .u32 ((rv hs bl t).f : Int)), (7, [], .int .u32 ((rv hs bl t).e : Int)), (6, [], .int .u32 ((rv hs bl t).d : Int)), (5, [], .int .u32 ((rv hs bl t).c : Int)), (4, [], .int .u32 ((rv hs bl t).b : Int)), (3, [], .int .u32 ((rv hs bl t).a : Int)), (2, [], .pointer (some ⟨xw, 0, none⟩)), (0, [], .pointer (some ⟨b, 0, none⟩))]) (nd := (fun _ => [])) (fun _ => by kernel_rfl) trivial ?_
    refine Cfg.cond rfl (b := (decide ((t : Int) < (64 : Int)))) (by kernel_rfl) (fun c1r => ?_) (fun c1r => ?_)
    · have c1 : ((t : Int) < (64 : Int)) := (of_decide_eq_true c1r)
      refine Cfg.reg rfl [0, 2, 3, 4, 5, 6, 7, 8, 9, 10, 11, 62] [] (Γ' := [(11, [], .int .i64 (t : Int)), (62, [], .int .i64 (t : Int)), (10, [], .int .u32 ((rv hs bl t).h : Int)), (9, [], .int .u32 ((rv hs bl t).g : Int)), (8, [], .int .u32 ((rv hs bl t).f : Int)), (7, [], .int .u32 ((rv hs bl t).e : Int)), (6, [], .int .u32 ((rv hs bl t).d : Int)), (5, [], .int .u32 ((rv hs bl t).c : Int)), (4, [], .int .u32 ((rv hs bl t).b : Int)), (3, [], .int .u32 ((rv hs bl t).a : Int)), (2, [], .pointer (some ⟨xw, 0, none⟩)), (0, [], .pointer (some ⟨b, 0, none⟩))]) (nd := (fun _ => [])) (fun _ => by kernel_rfl) trivial ?_
      refine Cfg.begL rfl ?_
      refine CfgL.pure 1 [] none (Γ' := [(65, [], .int .u32 ((rv hs bl t).e : Int)), (11, [], .int .i64 (t : Int)), (62, [], .int .i64 (t : Int)), (10, [], .int .u32 ((rv hs bl t).h : Int)), (9, [], .int .u32 ((rv hs bl t).g : Int)), (8, [], .int .u32 ((rv hs bl t).f : Int)), (7, [], .int .u32 ((rv hs bl t).e : Int)), (6, [], .int .u32 ((rv hs bl t).d : Int)), (5, [], .int .u32 ((rv hs bl t).c : Int)), (4, [], .int .u32 ((rv hs bl t).b : Int)), (3, [], .int .u32 ((rv hs bl t).a : Int)), (2, [], .pointer (some ⟨xw, 0, none⟩)), (0, [], .pointer (some ⟨b, 0, none⟩))]) (nd := (fun _ => [])) (by kernel_rfl) (fun _ => by kernel_rfl) trivial ?_
      refine CfgL.eff (o := _) rfl (by kernel_rfl) (by kernel_rfl) (Eff.callA (vs := [.int .u32 ((rv hs bl t).e : Int), .int .i64 (-6)]) (.int .u32 (rotl ((rv hs bl t).e) 67108864 64 : Int)) rfl Tryz.func177 rfl rfl (by kernel_rfl) (fun w1 _ => rot26 _ w1 ok.e)) ?_
      rintro ⟨⟩ -
      refine CfgL.pure 1 [] (some [0, 2, 3, 4, 5, 6, 7, 8, 9, 10, 11, 62, 66, 67]) (Γ' := [(67, [], .int .u32 ((rv hs bl t).e : Int)), (66, [], .int .u32 (rotl ((rv hs bl t).e) 67108864 64 : Int)), (11, [], .int .i64 (t : Int)), (62, [], .int .i64 (t : Int)), (10, [], .int .u32 ((rv hs bl t).h : Int)), (9, [], .int .u32 ((rv hs bl t).g : Int)), (8, [], .int .u32 ((rv hs bl t).f : Int)), (7, [], .int .u32 ((rv hs bl t).e : Int)), (6, [], .int .u32 ((rv hs bl t).d : Int)), (5, [], .int .u32 ((rv hs bl t).c : Int)), (4, [], .int .u32 ((rv hs bl t).b : Int)), (3, [], .int .u32 ((rv hs bl t).a : Int)), (2, [], .pointer (some ⟨xw, 0, none⟩)), (0, [], .pointer (some ⟨b, 0, none⟩))]) (nd := (fun _ => [])) (by kernel_rfl) (fun _ => by kernel_rfl) trivial ?_
      refine CfgL.eff (o := _) rfl (by kernel_rfl) (by kernel_rfl) (Eff.callA (vs := [.int .u32 ((rv hs bl t).e : Int), .int .i64 (-11)]) (.int .u32 (rotl ((rv hs bl t).e) 2097152 2048 : Int)) rfl Tryz.func177 rfl rfl (by kernel_rfl) (fun w1 _ => rot21 _ w1 ok.e)) ?_
      rintro ⟨⟩ -
      refine CfgL.pure 2 [] (some [0, 2, 3, 4, 5, 6, 7, 8, 9, 10, 11, 62, 69, 70]) (Γ' := [(70, [], .int .u32 ((rv hs bl t).e : Int)), (69, [], .int .u32 ((((rotl ((rv hs bl t).e) 67108864 64 : Int)).toNat ^^^ ((rotl ((rv hs bl t).e) 2097152 2048 : Int)).toNat : Nat) : Int)), (11, [], .int .i64 (t : Int)), (62, [], .int .i64 (t : Int)), (10, [], .int .u32 ((rv hs bl t).h : Int)), (9, [], .int .u32 ((rv hs bl t).g : Int)), (8, [], .int .u32 ((rv hs bl t).f : Int)), (7, [], .int .u32 ((rv hs bl t).e : Int)), (6, [], .int .u32 ((rv hs bl t).d : Int)), (5, [], .int .u32 ((rv hs bl t).c : Int)), (4, [], .int .u32 ((rv hs bl t).b : Int)), (3, [], .int .u32 ((rv hs bl t).a : Int)), (2, [], .pointer (some ⟨xw, 0, none⟩)), (0, [], .pointer (some ⟨b, 0, none⟩))]) (nd := (fun _ => [((0 ≤ (rotl ((rv hs bl t).e) 67108864 64 : Int) ∧ (rotl ((rv hs bl t).e) 67108864 64 : Int) ≤ 4294967295) ∧ 0 ≤ (rotl ((rv hs bl t).e) 2097152 2048 : Int) ∧ (rotl ((rv hs bl t).e) 2097152 2048 : Int) ≤ 4294967295)])) (by kernel_rfl) (fun _ => by kernel_rfl) ⟨⟨⟨Int.natCast_nonneg _, le_pow (b := 32) (rotl_lt ok.e)⟩, ⟨Int.natCast_nonneg _, le_pow (b := 32) (rotl_lt ok.e)⟩⟩, trivial⟩ ?_
      refine CfgL.eff (o := _) rfl (by kernel_rfl) (by kernel_rfl) (Eff.callA (vs := [.int .u32 ((rv hs bl t).e : Int), .int .i64 (-25)]) (.int .u32 (rotl ((rv hs bl t).e) 128 33554432 : Int)) rfl Tryz.func177 rfl rfl (by kernel_rfl) (fun w1 _ => rot7 _ w1 ok.e)) ?_
      rintro ⟨⟩ -
      refine CfgL.pure 2 [] (some [0, 2, 3, 4, 5, 6, 7, 8, 9, 10, 11, 12, 62]) (Γ' := [(12, [], .int .u32 (((((((rotl ((rv hs bl t).e) 67108864 64 : Int)).toNat ^^^ ((rotl ((rv hs bl t).e) 2097152 2048 : Int)).toNat : Nat) : Int)).toNat ^^^ ((rotl ((rv hs bl t).e) 128 33554432 : Int)).toNat : Nat) : Int)), (11, [], .int .i64 (t : Int)), (62, [], .int .i64 (t : Int)), (10, [], .int .u32 ((rv hs bl t).h : Int)), (9, [], .int .u32 ((rv hs bl t).g : Int)), (8, [], .int .u32 ((rv hs bl t).f : Int)), (7, [], .int .u32 ((rv hs bl t).e : Int)), (6, [], .int .u32 ((rv hs bl t).d : Int)), (5, [], .int .u32 ((rv hs bl t).c : Int)), (4, [], .int .u32 ((rv hs bl t).b : Int)), (3, [], .int .u32 ((rv hs bl t).a : Int)), (2, [], .pointer (some ⟨xw, 0, none⟩)), (0, [], .pointer (some ⟨b, 0, none⟩))]) (nd := (fun _ => [((0 ≤ ((((rotl ((rv hs bl t).e) 67108864 64 : Int)).toNat ^^^ ((rotl ((rv hs bl t).e) 2097152 2048 : Int)).toNat : Nat) : Int) ∧ ((((rotl ((rv hs bl t).e) 67108864 64 : Int)).toNat ^^^ ((rotl ((rv hs bl t).e) 2097152 2048 : Int)).toNat : Nat) : Int) ≤ 4294967295) ∧ 0 ≤ (rotl ((rv hs bl t).e) 128 33554432 : Int) ∧ (rotl ((rv hs bl t).e) 128 33554432 : Int) ≤ 4294967295)])) (by kernel_rfl) (fun _ => by kernel_rfl) ⟨⟨⟨Int.natCast_nonneg _, le_pow (b := 32) (Nat.xor_lt_two_pow (tn_lt (rotl_lt ok.e)) (tn_lt (rotl_lt ok.e)))⟩, ⟨Int.natCast_nonneg _, le_pow (b := 32) (rotl_lt ok.e)⟩⟩, trivial⟩ ?_
      refine CfgL.done rfl ?_
      refine Cfg.setG (Γ' := [(12, [], .int .u32 (bigE (rv hs bl t).e : Int)), (11, [], .int .i64 (t : Int)), (62, [], .int .i64 (t : Int)), (10, [], .int .u32 ((rv hs bl t).h : Int)), (9, [], .int .u32 ((rv hs bl t).g : Int)), (8, [], .int .u32 ((rv hs bl t).f : Int)), (7, [], .int .u32 ((rv hs bl t).e : Int)), (6, [], .int .u32 ((rv hs bl t).d : Int)), (5, [], .int .u32 ((rv hs bl t).c : Int)), (4, [], .int .u32 ((rv hs bl t).b : Int)), (3, [], .int .u32 ((rv hs bl t).a : Int)), (2, [], .pointer (some ⟨xw, 0, none⟩)), (0, [], .pointer (some ⟨b, 0, none⟩))]) (congrArg (fun (xq : Int) => ([(12, [], .int .u32 xq), (11, [], .int .i64 (t : Int)), (62, [], .int .i64 (t : Int)), (10, [], .int .u32 ((rv hs bl t).h : Int)), (9, [], .int .u32 ((rv hs bl t).g : Int)), (8, [], .int .u32 ((rv hs bl t).f : Int)), (7, [], .int .u32 ((rv hs bl t).e : Int)), (6, [], .int .u32 ((rv hs bl t).d : Int)), (5, [], .int .u32 ((rv hs bl t).c : Int)), (4, [], .int .u32 ((rv hs bl t).b : Int)), (3, [], .int .u32 ((rv hs bl t).a : Int)), (2, [], .pointer (some ⟨xw, 0, none⟩)), (0, [], .pointer (some ⟨b, 0, none⟩))] : Env)) (bigE_eq _)) ?_
      refine Cfg.reg rfl [0, 2, 3, 4, 5, 6, 7, 8, 9, 10, 11, 12, 13, 62] [] (Γ' := [(13, [], .int .u32 ((((((((rv hs bl t).e : Int)).toNat &&& (((rv hs bl t).f : Int)).toNat : Nat) : Int)).toNat ^^^ ((((((4294967295 ^^^ (((rv hs bl t).e : Int)).toNat : Nat) : Int)).toNat &&& (((rv hs bl t).g : Int)).toNat : Nat) : Int)).toNat : Nat) : Int)), (12, [], .int .u32 (bigE (rv hs bl t).e : Int)), (11, [], .int .i64 (t : Int)), (62, [], .int .i64 (t : Int)), (10, [], .int .u32 ((rv hs bl t).h : Int)), (9, [], .int .u32 ((rv hs bl t).g : Int)), (8, [], .int .u32 ((rv hs bl t).f : Int)), (7, [], .int .u32 ((rv hs bl t).e : Int)), (6, [], .int .u32 ((rv hs bl t).d : Int)), (5, [], .int .u32 ((rv hs bl t).c : Int)), (4, [], .int .u32 ((rv hs bl t).b : Int)), (3, [], .int .u32 ((rv hs bl t).a : Int)), (2, [], .pointer (some ⟨xw, 0, none⟩)), (0, [], .pointer (some ⟨b, 0, none⟩))]) (nd := (fun _ => [((0 ≤ ((rv hs bl t).e : Int) ∧ ((rv hs bl t).e : Int) ≤ 4294967295) ∧ 0 ≤ ((rv hs bl t).f : Int) ∧ ((rv hs bl t).f : Int) ≤ 4294967295), ((0 ≤ (4294967295 : Int) ∧ (4294967295 : Int) ≤ 4294967295) ∧ 0 ≤ ((rv hs bl t).e : Int) ∧ ((rv hs bl t).e : Int) ≤ 4294967295), ((0 ≤ ((4294967295 ^^^ (((rv hs bl t).e : Int)).toNat : Nat) : Int) ∧ ((4294967295 ^^^ (((rv hs bl t).e : Int)).toNat : Nat) : Int) ≤ 4294967295) ∧ 0 ≤ ((rv hs bl t).g : Int) ∧ ((rv hs bl t).g : Int) ≤ 4294967295), ((0 ≤ (((((rv hs bl t).e : Int)).toNat &&& (((rv hs bl t).f : Int)).toNat : Nat) : Int) ∧ (((((rv hs bl t).e : Int)).toNat &&& (((rv hs bl t).f : Int)).toNat : Nat) : Int) ≤ 4294967295) ∧ 0 ≤ (((((4294967295 ^^^ (((rv hs bl t).e : Int)).toNat : Nat) : Int)).toNat &&& (((rv hs bl t).g : Int)).toNat : Nat) : Int) ∧ (((((4294967295 ^^^ (((rv hs bl t).e : Int)).toNat : Nat) : Int)).toNat &&& (((rv hs bl t).g : Int)).toNat : Nat) : Int) ≤ 4294967295)])) (fun _ => by kernel_rfl) ⟨⟨⟨Int.natCast_nonneg _, le_pow (b := 32) ok.e⟩, ⟨Int.natCast_nonneg _, le_pow (b := 32) ok.f⟩⟩, ⟨⟨by omega, by omega⟩, ⟨Int.natCast_nonneg _, le_pow (b := 32) ok.e⟩⟩, ⟨⟨Int.natCast_nonneg _, le_pow (b := 32) (Nat.xor_lt_two_pow (by omega) (tn_lt ok.e))⟩, ⟨Int.natCast_nonneg _, le_pow (b := 32) ok.g⟩⟩, ⟨⟨Int.natCast_nonneg _, le_pow (b := 32) (Nat.and_lt_two_pow _ (tn_lt ok.f))⟩, ⟨Int.natCast_nonneg _, le_pow (b := 32) (Nat.and_lt_two_pow _ (tn_lt ok.g))⟩⟩, trivial⟩ ?_
      refine Cfg.setG (Γ' := [(13, [], .int .u32 (choi (rv hs bl t).e (rv hs bl t).f (rv hs bl t).g : Int)), (12, [], .int .u32 (bigE (rv hs bl t).e : Int)), (11, [], .int .i64 (t : Int)), (62, [], .int .i64 (t : Int)), (10, [], .int .u32 ((rv hs bl t).h : Int)), (9, [], .int .u32 ((rv hs bl t).g : Int)), (8, [], .int .u32 ((rv hs bl t).f : Int)), (7, [], .int .u32 ((rv hs bl t).e : Int)), (6, [], .int .u32 ((rv hs bl t).d : Int)), (5, [], .int .u32 ((rv hs bl t).c : Int)), (4, [], .int .u32 ((rv hs bl t).b : Int)), (3, [], .int .u32 ((rv hs bl t).a : Int)), (2, [], .pointer (some ⟨xw, 0, none⟩)), (0, [], .pointer (some ⟨b, 0, none⟩))]) (congrArg (fun (xq : Int) => ([(13, [], .int .u32 xq), (12, [], .int .u32 (bigE (rv hs bl t).e : Int)), (11, [], .int .i64 (t : Int)), (62, [], .int .i64 (t : Int)), (10, [], .int .u32 ((rv hs bl t).h : Int)), (9, [], .int .u32 ((rv hs bl t).g : Int)), (8, [], .int .u32 ((rv hs bl t).f : Int)), (7, [], .int .u32 ((rv hs bl t).e : Int)), (6, [], .int .u32 ((rv hs bl t).d : Int)), (5, [], .int .u32 ((rv hs bl t).c : Int)), (4, [], .int .u32 ((rv hs bl t).b : Int)), (3, [], .int .u32 ((rv hs bl t).a : Int)), (2, [], .pointer (some ⟨xw, 0, none⟩)), (0, [], .pointer (some ⟨b, 0, none⟩))] : Env)) (choi_eq _ _ _)) ?_
      refine Cfg.regD rfl (by kernel_rfl) [0, 2, 3, 4, 5, 6, 7, 8, 9, 14, 62] [(0, false, none), (0, false, none), (0, false, none), (0, false, none), (0, false, none), (0, false, none), (0, false, none), (0, false, some (.int .u32 (rg Kc t : Int))), (0, false, none), (0, false, none), (0, false, none), (0, false, some (.int .u32 (rg (row bl 64) t : Int)))] (Γ' := [(14, [], .int .u32 ((((((((((rv hs bl t).h : Int) + (bigE (rv hs bl t).e : Int)) % 4294967296) + (choi (rv hs bl t).e (rv hs bl t).f (rv hs bl t).g : Int)) % 4294967296) + (rg Kc t : Int)) % 4294967296) + (rg (row bl 64) t : Int)) % 4294967296)), (62, [], .int .i64 (t : Int)), (9, [], .int .u32 ((rv hs bl t).g : Int)), (8, [], .int .u32 ((rv hs bl t).f : Int)), (7, [], .int .u32 ((rv hs bl t).e : Int)), (6, [], .int .u32 ((rv hs bl t).d : Int)), (5, [], .int .u32 ((rv hs bl t).c : Int)), (4, [], .int .u32 ((rv hs bl t).b : Int)), (3, [], .int .u32 ((rv hs bl t).a : Int)), (2, [], .pointer (some ⟨xw, 0, none⟩)), (0, [], .pointer (some ⟨b, 0, none⟩))]) (nd := (fun S => [(0 ≤ (t : Int) ∧ (t : Int) < (64 : Int)), (∀ w1, S w1 → w1.cell? ⟨0, t, none⟩ = some (.int .u32 (rg Kc t : Int))), (0 ≤ (t : Int) ∧ (t : Int) < (64 : Int)), (∀ w1, S w1 → w1.cell? ⟨xw, t, none⟩ = some (.int .u32 (rg (row bl 64) t : Int)))])) (by kernel_rfl) (by kernel_rfl) (fun _ => by kernel_rfl) ⟨(by omega), (fun w1 h => h.rcell 0 rfl (hK _ (by omega))), (by omega), (fun w1 h => h.ocell 0 rfl (wv_get (row_len bl 64) (by omega))), trivial⟩ ?_
      refine Cfg.setG (Γ' := [(14, [], .int .u32 (frst (rg Kc t) (rg (row bl 64) t) (rv hs bl t) : Int)), (62, [], .int .i64 (t : Int)), (9, [], .int .u32 ((rv hs bl t).g : Int)), (8, [], .int .u32 ((rv hs bl t).f : Int)), (7, [], .int .u32 ((rv hs bl t).e : Int)), (6, [], .int .u32 ((rv hs bl t).d : Int)), (5, [], .int .u32 ((rv hs bl t).c : Int)), (4, [], .int .u32 ((rv hs bl t).b : Int)), (3, [], .int .u32 ((rv hs bl t).a : Int)), (2, [], .pointer (some ⟨xw, 0, none⟩)), (0, [], .pointer (some ⟨b, 0, none⟩))]) (congrArg (fun (xq : Int) => ([(14, [], .int .u32 xq), (62, [], .int .i64 (t : Int)), (9, [], .int .u32 ((rv hs bl t).g : Int)), (8, [], .int .u32 ((rv hs bl t).f : Int)), (7, [], .int .u32 ((rv hs bl t).e : Int)), (6, [], .int .u32 ((rv hs bl t).d : Int)), (5, [], .int .u32 ((rv hs bl t).c : Int)), (4, [], .int .u32 ((rv hs bl t).b : Int)), (3, [], .int .u32 ((rv hs bl t).a : Int)), (2, [], .pointer (some ⟨xw, 0, none⟩)), (0, [], .pointer (some ⟨b, 0, none⟩))] : Env)) (frst_eq _ _ _)) ?_
      refine Cfg.begL rfl ?_
      refine CfgL.pure 1 [] none (Γ' := [(94, [], .int .u32 ((rv hs bl t).a : Int)), (14, [], .int .u32 (frst (rg Kc t) (rg (row bl 64) t) (rv hs bl t) : Int)), (62, [], .int .i64 (t : Int)), (9, [], .int .u32 ((rv hs bl t).g : Int)), (8, [], .int .u32 ((rv hs bl t).f : Int)), (7, [], .int .u32 ((rv hs bl t).e : Int)), (6, [], .int .u32 ((rv hs bl t).d : Int)), (5, [], .int .u32 ((rv hs bl t).c : Int)), (4, [], .int .u32 ((rv hs bl t).b : Int)), (3, [], .int .u32 ((rv hs bl t).a : Int)), (2, [], .pointer (some ⟨xw, 0, none⟩)), (0, [], .pointer (some ⟨b, 0, none⟩))]) (nd := (fun _ => [])) (by kernel_rfl) (fun _ => by kernel_rfl) trivial ?_
      refine CfgL.eff (o := _) rfl (by kernel_rfl) (by kernel_rfl) (Eff.callA (vs := [.int .u32 ((rv hs bl t).a : Int), .int .i64 (-2)]) (.int .u32 (rotl ((rv hs bl t).a) 1073741824 4 : Int)) rfl Tryz.func177 rfl rfl (by kernel_rfl) (fun w1 _ => rot30 _ w1 ok.a)) ?_
      rintro ⟨⟩ -
      refine CfgL.pure 1 [] (some [0, 2, 3, 4, 5, 6, 7, 8, 9, 14, 62, 95, 96]) (Γ' := [(96, [], .int .u32 ((rv hs bl t).a : Int)), (95, [], .int .u32 (rotl ((rv hs bl t).a) 1073741824 4 : Int)), (14, [], .int .u32 (frst (rg Kc t) (rg (row bl 64) t) (rv hs bl t) : Int)), (62, [], .int .i64 (t : Int)), (9, [], .int .u32 ((rv hs bl t).g : Int)), (8, [], .int .u32 ((rv hs bl t).f : Int)), (7, [], .int .u32 ((rv hs bl t).e : Int)), (6, [], .int .u32 ((rv hs bl t).d : Int)), (5, [], .int .u32 ((rv hs bl t).c : Int)), (4, [], .int .u32 ((rv hs bl t).b : Int)), (3, [], .int .u32 ((rv hs bl t).a : Int)), (2, [], .pointer (some ⟨xw, 0, none⟩)), (0, [], .pointer (some ⟨b, 0, none⟩))]) (nd := (fun _ => [])) (by kernel_rfl) (fun _ => by kernel_rfl) trivial ?_
      refine CfgL.eff (o := _) rfl (by kernel_rfl) (by kernel_rfl) (Eff.callA (vs := [.int .u32 ((rv hs bl t).a : Int), .int .i64 (-13)]) (.int .u32 (rotl ((rv hs bl t).a) 524288 8192 : Int)) rfl Tryz.func177 rfl rfl (by kernel_rfl) (fun w1 _ => rot19 _ w1 ok.a)) ?_
      rintro ⟨⟩ -
      refine CfgL.pure 2 [] (some [0, 2, 3, 4, 5, 6, 7, 8, 9, 14, 62, 98, 99]) (Γ' := [(99, [], .int .u32 ((rv hs bl t).a : Int)), (98, [], .int .u32 ((((rotl ((rv hs bl t).a) 1073741824 4 : Int)).toNat ^^^ ((rotl ((rv hs bl t).a) 524288 8192 : Int)).toNat : Nat) : Int)), (14, [], .int .u32 (frst (rg Kc t) (rg (row bl 64) t) (rv hs bl t) : Int)), (62, [], .int .i64 (t : Int)), (9, [], .int .u32 ((rv hs bl t).g : Int)), (8, [], .int .u32 ((rv hs bl t).f : Int)), (7, [], .int .u32 ((rv hs bl t).e : Int)), (6, [], .int .u32 ((rv hs bl t).d : Int)), (5, [], .int .u32 ((rv hs bl t).c : Int)), (4, [], .int .u32 ((rv hs bl t).b : Int)), (3, [], .int .u32 ((rv hs bl t).a : Int)), (2, [], .pointer (some ⟨xw, 0, none⟩)), (0, [], .pointer (some ⟨b, 0, none⟩))]) (nd := (fun _ => [((0 ≤ (rotl ((rv hs bl t).a) 1073741824 4 : Int) ∧ (rotl ((rv hs bl t).a) 1073741824 4 : Int) ≤ 4294967295) ∧ 0 ≤ (rotl ((rv hs bl t).a) 524288 8192 : Int) ∧ (rotl ((rv hs bl t).a) 524288 8192 : Int) ≤ 4294967295)])) (by kernel_rfl) (fun _ => by kernel_rfl) ⟨⟨⟨Int.natCast_nonneg _, le_pow (b := 32) (rotl_lt ok.a)⟩, ⟨Int.natCast_nonneg _, le_pow (b := 32) (rotl_lt ok.a)⟩⟩, trivial⟩ ?_
      refine CfgL.eff (o := _) rfl (by kernel_rfl) (by kernel_rfl) (Eff.callA (vs := [.int .u32 ((rv hs bl t).a : Int), .int .i64 (-22)]) (.int .u32 (rotl ((rv hs bl t).a) 1024 4194304 : Int)) rfl Tryz.func177 rfl rfl (by kernel_rfl) (fun w1 _ => rot10 _ w1 ok.a)) ?_
      rintro ⟨⟩ -
      refine CfgL.pure 2 [] (some [0, 2, 3, 4, 5, 6, 7, 8, 9, 14, 15, 62]) (Γ' := [(15, [], .int .u32 (((((((rotl ((rv hs bl t).a) 1073741824 4 : Int)).toNat ^^^ ((rotl ((rv hs bl t).a) 524288 8192 : Int)).toNat : Nat) : Int)).toNat ^^^ ((rotl ((rv hs bl t).a) 1024 4194304 : Int)).toNat : Nat) : Int)), (14, [], .int .u32 (frst (rg Kc t) (rg (row bl 64) t) (rv hs bl t) : Int)), (62, [], .int .i64 (t : Int)), (9, [], .int .u32 ((rv hs bl t).g : Int)), (8, [], .int .u32 ((rv hs bl t).f : Int)), (7, [], .int .u32 ((rv hs bl t).e : Int)), (6, [], .int .u32 ((rv hs bl t).d : Int)), (5, [], .int .u32 ((rv hs bl t).c : Int)), (4, [], .int .u32 ((rv hs bl t).b : Int)), (3, [], .int .u32 ((rv hs bl t).a : Int)), (2, [], .pointer (some ⟨xw, 0, none⟩)), (0, [], .pointer (some ⟨b, 0, none⟩))]) (nd := (fun _ => [((0 ≤ ((((rotl ((rv hs bl t).a) 1073741824 4 : Int)).toNat ^^^ ((rotl ((rv hs bl t).a) 524288 8192 : Int)).toNat : Nat) : Int) ∧ ((((rotl ((rv hs bl t).a) 1073741824 4 : Int)).toNat ^^^ ((rotl ((rv hs bl t).a) 524288 8192 : Int)).toNat : Nat) : Int) ≤ 4294967295) ∧ 0 ≤ (rotl ((rv hs bl t).a) 1024 4194304 : Int) ∧ (rotl ((rv hs bl t).a) 1024 4194304 : Int) ≤ 4294967295)])) (by kernel_rfl) (fun _ => by kernel_rfl) ⟨⟨⟨Int.natCast_nonneg _, le_pow (b := 32) (Nat.xor_lt_two_pow (tn_lt (rotl_lt ok.a)) (tn_lt (rotl_lt ok.a)))⟩, ⟨Int.natCast_nonneg _, le_pow (b := 32) (rotl_lt ok.a)⟩⟩, trivial⟩ ?_
      refine CfgL.done rfl ?_
      refine Cfg.setG (Γ' := [(15, [], .int .u32 (bigA (rv hs bl t).a : Int)), (14, [], .int .u32 (frst (rg Kc t) (rg (row bl 64) t) (rv hs bl t) : Int)), (62, [], .int .i64 (t : Int)), (9, [], .int .u32 ((rv hs bl t).g : Int)), (8, [], .int .u32 ((rv hs bl t).f : Int)), (7, [], .int .u32 ((rv hs bl t).e : Int)), (6, [], .int .u32 ((rv hs bl t).d : Int)), (5, [], .int .u32 ((rv hs bl t).c : Int)), (4, [], .int .u32 ((rv hs bl t).b : Int)), (3, [], .int .u32 ((rv hs bl t).a : Int)), (2, [], .pointer (some ⟨xw, 0, none⟩)), (0, [], .pointer (some ⟨b, 0, none⟩))]) (congrArg (fun (xq : Int) => ([(15, [], .int .u32 xq), (14, [], .int .u32 (frst (rg Kc t) (rg (row bl 64) t) (rv hs bl t) : Int)), (62, [], .int .i64 (t : Int)), (9, [], .int .u32 ((rv hs bl t).g : Int)), (8, [], .int .u32 ((rv hs bl t).f : Int)), (7, [], .int .u32 ((rv hs bl t).e : Int)), (6, [], .int .u32 ((rv hs bl t).d : Int)), (5, [], .int .u32 ((rv hs bl t).c : Int)), (4, [], .int .u32 ((rv hs bl t).b : Int)), (3, [], .int .u32 ((rv hs bl t).a : Int)), (2, [], .pointer (some ⟨xw, 0, none⟩)), (0, [], .pointer (some ⟨b, 0, none⟩))] : Env)) (bigA_eq _)) ?_
      refine Cfg.reg rfl [0, 2, 3, 4, 5, 6, 7, 8, 9, 14, 15, 16, 62] [] (Γ' := [(16, [], .int .u32 (((((((((((rv hs bl t).a : Int)).toNat &&& (((rv hs bl t).b : Int)).toNat : Nat) : Int)).toNat ^^^ ((((((rv hs bl t).a : Int)).toNat &&& (((rv hs bl t).c : Int)).toNat : Nat) : Int)).toNat : Nat) : Int)).toNat ^^^ ((((((rv hs bl t).b : Int)).toNat &&& (((rv hs bl t).c : Int)).toNat : Nat) : Int)).toNat : Nat) : Int)), (15, [], .int .u32 (bigA (rv hs bl t).a : Int)), (14, [], .int .u32 (frst (rg Kc t) (rg (row bl 64) t) (rv hs bl t) : Int)), (62, [], .int .i64 (t : Int)), (9, [], .int .u32 ((rv hs bl t).g : Int)), (8, [], .int .u32 ((rv hs bl t).f : Int)), (7, [], .int .u32 ((rv hs bl t).e : Int)), (6, [], .int .u32 ((rv hs bl t).d : Int)), (5, [], .int .u32 ((rv hs bl t).c : Int)), (4, [], .int .u32 ((rv hs bl t).b : Int)), (3, [], .int .u32 ((rv hs bl t).a : Int)), (2, [], .pointer (some ⟨xw, 0, none⟩)), (0, [], .pointer (some ⟨b, 0, none⟩))]) (nd := (fun _ => [((0 ≤ ((rv hs bl t).a : Int) ∧ ((rv hs bl t).a : Int) ≤ 4294967295) ∧ 0 ≤ ((rv hs bl t).b : Int) ∧ ((rv hs bl t).b : Int) ≤ 4294967295), ((0 ≤ ((rv hs bl t).a : Int) ∧ ((rv hs bl t).a : Int) ≤ 4294967295) ∧ 0 ≤ ((rv hs bl t).c : Int) ∧ ((rv hs bl t).c : Int) ≤ 4294967295), ((0 ≤ (((((rv hs bl t).a : Int)).toNat &&& (((rv hs bl t).b : Int)).toNat : Nat) : Int) ∧ (((((rv hs bl t).a : Int)).toNat &&& (((rv hs bl t).b : Int)).toNat : Nat) : Int) ≤ 4294967295) ∧ 0 ≤ (((((rv hs bl t).a : Int)).toNat &&& (((rv hs bl t).c : Int)).toNat : Nat) : Int) ∧ (((((rv hs bl t).a : Int)).toNat &&& (((rv hs bl t).c : Int)).toNat : Nat) : Int) ≤ 4294967295), ((0 ≤ ((rv hs bl t).b : Int) ∧ ((rv hs bl t).b : Int) ≤ 4294967295) ∧ 0 ≤ ((rv hs bl t).c : Int) ∧ ((rv hs bl t).c : Int) ≤ 4294967295), ((0 ≤ ((((((((rv hs bl t).a : Int)).toNat &&& (((rv hs bl t).b : Int)).toNat : Nat) : Int)).toNat ^^^ ((((((rv hs bl t).a : Int)).toNat &&& (((rv hs bl t).c : Int)).toNat : Nat) : Int)).toNat : Nat) : Int) ∧ ((((((((rv hs bl t).a : Int)).toNat &&& (((rv hs bl t).b : Int)).toNat : Nat) : Int)).toNat ^^^ ((((((rv hs bl t).a : Int)).toNat &&& (((rv hs bl t).c : Int)).toNat : Nat) : Int)).toNat : Nat) : Int) ≤ 4294967295) ∧ 0 ≤ (((((rv hs bl t).b : Int)).toNat &&& (((rv hs bl t).c : Int)).toNat : Nat) : Int) ∧ (((((rv hs bl t).b : Int)).toNat &&& (((rv hs bl t).c : Int)).toNat : Nat) : Int) ≤ 4294967295)])) (fun _ => by kernel_rfl) ⟨⟨⟨Int.natCast_nonneg _, le_pow (b := 32) ok.a⟩, ⟨Int.natCast_nonneg _, le_pow (b := 32) ok.b⟩⟩, ⟨⟨Int.natCast_nonneg _, le_pow (b := 32) ok.a⟩, ⟨Int.natCast_nonneg _, le_pow (b := 32) ok.c⟩⟩, ⟨⟨Int.natCast_nonneg _, le_pow (b := 32) (Nat.and_lt_two_pow _ (tn_lt ok.b))⟩, ⟨Int.natCast_nonneg _, le_pow (b := 32) (Nat.and_lt_two_pow _ (tn_lt ok.c))⟩⟩, ⟨⟨Int.natCast_nonneg _, le_pow (b := 32) ok.b⟩, ⟨Int.natCast_nonneg _, le_pow (b := 32) ok.c⟩⟩, ⟨⟨Int.natCast_nonneg _, le_pow (b := 32) (Nat.xor_lt_two_pow (tn_lt (Nat.and_lt_two_pow _ (tn_lt ok.b))) (tn_lt (Nat.and_lt_two_pow _ (tn_lt ok.c))))⟩, ⟨Int.natCast_nonneg _, le_pow (b := 32) (Nat.and_lt_two_pow _ (tn_lt ok.c))⟩⟩, trivial⟩ ?_
      refine Cfg.setG (Γ' := [(16, [], .int .u32 (most (rv hs bl t).a (rv hs bl t).b (rv hs bl t).c : Int)), (15, [], .int .u32 (bigA (rv hs bl t).a : Int)), (14, [], .int .u32 (frst (rg Kc t) (rg (row bl 64) t) (rv hs bl t) : Int)), (62, [], .int .i64 (t : Int)), (9, [], .int .u32 ((rv hs bl t).g : Int)), (8, [], .int .u32 ((rv hs bl t).f : Int)), (7, [], .int .u32 ((rv hs bl t).e : Int)), (6, [], .int .u32 ((rv hs bl t).d : Int)), (5, [], .int .u32 ((rv hs bl t).c : Int)), (4, [], .int .u32 ((rv hs bl t).b : Int)), (3, [], .int .u32 ((rv hs bl t).a : Int)), (2, [], .pointer (some ⟨xw, 0, none⟩)), (0, [], .pointer (some ⟨b, 0, none⟩))]) (congrArg (fun (xq : Int) => ([(16, [], .int .u32 xq), (15, [], .int .u32 (bigA (rv hs bl t).a : Int)), (14, [], .int .u32 (frst (rg Kc t) (rg (row bl 64) t) (rv hs bl t) : Int)), (62, [], .int .i64 (t : Int)), (9, [], .int .u32 ((rv hs bl t).g : Int)), (8, [], .int .u32 ((rv hs bl t).f : Int)), (7, [], .int .u32 ((rv hs bl t).e : Int)), (6, [], .int .u32 ((rv hs bl t).d : Int)), (5, [], .int .u32 ((rv hs bl t).c : Int)), (4, [], .int .u32 ((rv hs bl t).b : Int)), (3, [], .int .u32 ((rv hs bl t).a : Int)), (2, [], .pointer (some ⟨xw, 0, none⟩)), (0, [], .pointer (some ⟨b, 0, none⟩))] : Env)) (most_eq _ _ _)) ?_
      refine Cfg.reg rfl [0, 2, 3, 4, 5, 6, 7, 8, 9, 14, 17, 62] [] (Γ' := [(17, [], .int .u32 (((bigA (rv hs bl t).a : Int) + (most (rv hs bl t).a (rv hs bl t).b (rv hs bl t).c : Int)) % 4294967296)), (14, [], .int .u32 (frst (rg Kc t) (rg (row bl 64) t) (rv hs bl t) : Int)), (62, [], .int .i64 (t : Int)), (9, [], .int .u32 ((rv hs bl t).g : Int)), (8, [], .int .u32 ((rv hs bl t).f : Int)), (7, [], .int .u32 ((rv hs bl t).e : Int)), (6, [], .int .u32 ((rv hs bl t).d : Int)), (5, [], .int .u32 ((rv hs bl t).c : Int)), (4, [], .int .u32 ((rv hs bl t).b : Int)), (3, [], .int .u32 ((rv hs bl t).a : Int)), (2, [], .pointer (some ⟨xw, 0, none⟩)), (0, [], .pointer (some ⟨b, 0, none⟩))]) (nd := (fun _ => [])) (fun _ => by kernel_rfl) trivial ?_
      refine Cfg.setG (Γ' := [(17, [], .int .u32 (scnd (rv hs bl t) : Int)), (14, [], .int .u32 (frst (rg Kc t) (rg (row bl 64) t) (rv hs bl t) : Int)), (62, [], .int .i64 (t : Int)), (9, [], .int .u32 ((rv hs bl t).g : Int)), (8, [], .int .u32 ((rv hs bl t).f : Int)), (7, [], .int .u32 ((rv hs bl t).e : Int)), (6, [], .int .u32 ((rv hs bl t).d : Int)), (5, [], .int .u32 ((rv hs bl t).c : Int)), (4, [], .int .u32 ((rv hs bl t).b : Int)), (3, [], .int .u32 ((rv hs bl t).a : Int)), (2, [], .pointer (some ⟨xw, 0, none⟩)), (0, [], .pointer (some ⟨b, 0, none⟩))]) (congrArg (fun (xq : Int) => ([(17, [], .int .u32 xq), (14, [], .int .u32 (frst (rg Kc t) (rg (row bl 64) t) (rv hs bl t) : Int)), (62, [], .int .i64 (t : Int)), (9, [], .int .u32 ((rv hs bl t).g : Int)), (8, [], .int .u32 ((rv hs bl t).f : Int)), (7, [], .int .u32 ((rv hs bl t).e : Int)), (6, [], .int .u32 ((rv hs bl t).d : Int)), (5, [], .int .u32 ((rv hs bl t).c : Int)), (4, [], .int .u32 ((rv hs bl t).b : Int)), (3, [], .int .u32 ((rv hs bl t).a : Int)), (2, [], .pointer (some ⟨xw, 0, none⟩)), (0, [], .pointer (some ⟨b, 0, none⟩))] : Env)) (scnd_eq _)) ?_
      refine Cfg.reg rfl [0, 2, 3, 4, 5, 7, 8, 9, 10, 14, 17, 62] [] (Γ' := [(7, [], .int .u32 ((((rv hs bl t).d : Int) + (frst (rg Kc t) (rg (row bl 64) t) (rv hs bl t) : Int)) % 4294967296)), (8, [], .int .u32 ((rv hs bl t).e : Int)), (9, [], .int .u32 ((rv hs bl t).f : Int)), (10, [], .int .u32 ((rv hs bl t).g : Int)), (17, [], .int .u32 (scnd (rv hs bl t) : Int)), (14, [], .int .u32 (frst (rg Kc t) (rg (row bl 64) t) (rv hs bl t) : Int)), (62, [], .int .i64 (t : Int)), (5, [], .int .u32 ((rv hs bl t).c : Int)), (4, [], .int .u32 ((rv hs bl t).b : Int)), (3, [], .int .u32 ((rv hs bl t).a : Int)), (2, [], .pointer (some ⟨xw, 0, none⟩)), (0, [], .pointer (some ⟨b, 0, none⟩))]) (nd := (fun _ => [])) (fun _ => by kernel_rfl) trivial ?_
      refine Cfg.reg rfl [0, 2, 3, 4, 5, 6, 7, 8, 9, 10, 62] [] (Γ' := [(3, [], .int .u32 (((frst (rg Kc t) (rg (row bl 64) t) (rv hs bl t) : Int) + (scnd (rv hs bl t) : Int)) % 4294967296)), (4, [], .int .u32 ((rv hs bl t).a : Int)), (5, [], .int .u32 ((rv hs bl t).b : Int)), (6, [], .int .u32 ((rv hs bl t).c : Int)), (7, [], .int .u32 ((((rv hs bl t).d : Int) + (frst (rg Kc t) (rg (row bl 64) t) (rv hs bl t) : Int)) % 4294967296)), (8, [], .int .u32 ((rv hs bl t).e : Int)), (9, [], .int .u32 ((rv hs bl t).f : Int)), (10, [], .int .u32 ((rv hs bl t).g : Int)), (62, [], .int .i64 (t : Int)), (2, [], .pointer (some ⟨xw, 0, none⟩)), (0, [], .pointer (some ⟨b, 0, none⟩))]) (nd := (fun _ => [])) (fun _ => by kernel_rfl) trivial ?_
      refine Cfg.reg rfl [0, 2, 3, 4, 5, 6, 7, 8, 9, 10, 62] [] (Γ' := [(62, [], .int .i64 ((t : Int) + 1)), (3, [], .int .u32 (((frst (rg Kc t) (rg (row bl 64) t) (rv hs bl t) : Int) + (scnd (rv hs bl t) : Int)) % 4294967296)), (4, [], .int .u32 ((rv hs bl t).a : Int)), (5, [], .int .u32 ((rv hs bl t).b : Int)), (6, [], .int .u32 ((rv hs bl t).c : Int)), (7, [], .int .u32 ((((rv hs bl t).d : Int) + (frst (rg Kc t) (rg (row bl 64) t) (rv hs bl t) : Int)) % 4294967296)), (8, [], .int .u32 ((rv hs bl t).e : Int)), (9, [], .int .u32 ((rv hs bl t).f : Int)), (10, [], .int .u32 ((rv hs bl t).g : Int)), (2, [], .pointer (some ⟨xw, 0, none⟩)), (0, [], .pointer (some ⟨b, 0, none⟩))]) (nd := (fun _ => [((-9223372036854775808 : Int) ≤ ((t : Int) + 1) ∧ ((t : Int) + 1) ≤ 9223372036854775807)])) (fun _ => by kernel_rfl) ⟨(by omega), trivial⟩ ?_
      refine Cfg.setG (Γ' := [(62, [], .int .i64 ((t : Int) + 1)), (3, [], .int .u32 ((rv hs bl (t + 1)).a : Int)), (4, [], .int .u32 ((rv hs bl t).a : Int)), (5, [], .int .u32 ((rv hs bl t).b : Int)), (6, [], .int .u32 ((rv hs bl t).c : Int)), (7, [], .int .u32 ((((rv hs bl t).d : Int) + (frst (rg Kc t) (rg (row bl 64) t) (rv hs bl t) : Int)) % 4294967296)), (8, [], .int .u32 ((rv hs bl t).e : Int)), (9, [], .int .u32 ((rv hs bl t).f : Int)), (10, [], .int .u32 ((rv hs bl t).g : Int)), (2, [], .pointer (some ⟨xw, 0, none⟩)), (0, [], .pointer (some ⟨b, 0, none⟩))]) (congrArg (fun (xq : Int) => ([(62, [], .int .i64 ((t : Int) + 1)), (3, [], .int .u32 xq), (4, [], .int .u32 ((rv hs bl t).a : Int)), (5, [], .int .u32 ((rv hs bl t).b : Int)), (6, [], .int .u32 ((rv hs bl t).c : Int)), (7, [], .int .u32 ((((rv hs bl t).d : Int) + (frst (rg Kc t) (rg (row bl 64) t) (rv hs bl t) : Int)) % 4294967296)), (8, [], .int .u32 ((rv hs bl t).e : Int)), (9, [], .int .u32 ((rv hs bl t).f : Int)), (10, [], .int .u32 ((rv hs bl t).g : Int)), (2, [], .pointer (some ⟨xw, 0, none⟩)), (0, [], .pointer (some ⟨b, 0, none⟩))] : Env)) (rv_a hs bl t)) ?_
      refine Cfg.setG (Γ' := [(62, [], .int .i64 ((t : Int) + 1)), (3, [], .int .u32 ((rv hs bl (t + 1)).a : Int)), (4, [], .int .u32 ((rv hs bl (t + 1)).b : Int)), (5, [], .int .u32 ((rv hs bl t).b : Int)), (6, [], .int .u32 ((rv hs bl t).c : Int)), (7, [], .int .u32 ((((rv hs bl t).d : Int) + (frst (rg Kc t) (rg (row bl 64) t) (rv hs bl t) : Int)) % 4294967296)), (8, [], .int .u32 ((rv hs bl t).e : Int)), (9, [], .int .u32 ((rv hs bl t).f : Int)), (10, [], .int .u32 ((rv hs bl t).g : Int)), (2, [], .pointer (some ⟨xw, 0, none⟩)), (0, [], .pointer (some ⟨b, 0, none⟩))]) (congrArg (fun (xq : Int) => ([(62, [], .int .i64 ((t : Int) + 1)), (3, [], .int .u32 ((rv hs bl (t + 1)).a : Int)), (4, [], .int .u32 xq), (5, [], .int .u32 ((rv hs bl t).b : Int)), (6, [], .int .u32 ((rv hs bl t).c : Int)), (7, [], .int .u32 ((((rv hs bl t).d : Int) + (frst (rg Kc t) (rg (row bl 64) t) (rv hs bl t) : Int)) % 4294967296)), (8, [], .int .u32 ((rv hs bl t).e : Int)), (9, [], .int .u32 ((rv hs bl t).f : Int)), (10, [], .int .u32 ((rv hs bl t).g : Int)), (2, [], .pointer (some ⟨xw, 0, none⟩)), (0, [], .pointer (some ⟨b, 0, none⟩))] : Env)) (rv_b hs bl t)) ?_
      refine Cfg.setG (Γ' := [(62, [], .int .i64 ((t : Int) + 1)), (3, [], .int .u32 ((rv hs bl (t + 1)).a : Int)), (4, [], .int .u32 ((rv hs bl (t + 1)).b : Int)), (5, [], .int .u32 ((rv hs bl (t + 1)).c : Int)), (6, [], .int .u32 ((rv hs bl t).c : Int)), (7, [], .int .u32 ((((rv hs bl t).d : Int) + (frst (rg Kc t) (rg (row bl 64) t) (rv hs bl t) : Int)) % 4294967296)), (8, [], .int .u32 ((rv hs bl t).e : Int)), (9, [], .int .u32 ((rv hs bl t).f : Int)), (10, [], .int .u32 ((rv hs bl t).g : Int)), (2, [], .pointer (some ⟨xw, 0, none⟩)), (0, [], .pointer (some ⟨b, 0, none⟩))]) (congrArg (fun (xq : Int) => ([(62, [], .int .i64 ((t : Int) + 1)), (3, [], .int .u32 ((rv hs bl (t + 1)).a : Int)), (4, [], .int .u32 ((rv hs bl (t + 1)).b : Int)), (5, [], .int .u32 xq), (6, [], .int .u32 ((rv hs bl t).c : Int)), (7, [], .int .u32 ((((rv hs bl t).d : Int) + (frst (rg Kc t) (rg (row bl 64) t) (rv hs bl t) : Int)) % 4294967296)), (8, [], .int .u32 ((rv hs bl t).e : Int)), (9, [], .int .u32 ((rv hs bl t).f : Int)), (10, [], .int .u32 ((rv hs bl t).g : Int)), (2, [], .pointer (some ⟨xw, 0, none⟩)), (0, [], .pointer (some ⟨b, 0, none⟩))] : Env)) (rv_c hs bl t)) ?_
      refine Cfg.setG (Γ' := [(62, [], .int .i64 ((t : Int) + 1)), (3, [], .int .u32 ((rv hs bl (t + 1)).a : Int)), (4, [], .int .u32 ((rv hs bl (t + 1)).b : Int)), (5, [], .int .u32 ((rv hs bl (t + 1)).c : Int)), (6, [], .int .u32 ((rv hs bl (t + 1)).d : Int)), (7, [], .int .u32 ((((rv hs bl t).d : Int) + (frst (rg Kc t) (rg (row bl 64) t) (rv hs bl t) : Int)) % 4294967296)), (8, [], .int .u32 ((rv hs bl t).e : Int)), (9, [], .int .u32 ((rv hs bl t).f : Int)), (10, [], .int .u32 ((rv hs bl t).g : Int)), (2, [], .pointer (some ⟨xw, 0, none⟩)), (0, [], .pointer (some ⟨b, 0, none⟩))]) (congrArg (fun (xq : Int) => ([(62, [], .int .i64 ((t : Int) + 1)), (3, [], .int .u32 ((rv hs bl (t + 1)).a : Int)), (4, [], .int .u32 ((rv hs bl (t + 1)).b : Int)), (5, [], .int .u32 ((rv hs bl (t + 1)).c : Int)), (6, [], .int .u32 xq), (7, [], .int .u32 ((((rv hs bl t).d : Int) + (frst (rg Kc t) (rg (row bl 64) t) (rv hs bl t) : Int)) % 4294967296)), (8, [], .int .u32 ((rv hs bl t).e : Int)), (9, [], .int .u32 ((rv hs bl t).f : Int)), (10, [], .int .u32 ((rv hs bl t).g : Int)), (2, [], .pointer (some ⟨xw, 0, none⟩)), (0, [], .pointer (some ⟨b, 0, none⟩))] : Env)) (rv_d hs bl t)) ?_
      refine Cfg.setG (Γ' := [(62, [], .int .i64 ((t : Int) + 1)), (3, [], .int .u32 ((rv hs bl (t + 1)).a : Int)), (4, [], .int .u32 ((rv hs bl (t + 1)).b : Int)), (5, [], .int .u32 ((rv hs bl (t + 1)).c : Int)), (6, [], .int .u32 ((rv hs bl (t + 1)).d : Int)), (7, [], .int .u32 ((rv hs bl (t + 1)).e : Int)), (8, [], .int .u32 ((rv hs bl t).e : Int)), (9, [], .int .u32 ((rv hs bl t).f : Int)), (10, [], .int .u32 ((rv hs bl t).g : Int)), (2, [], .pointer (some ⟨xw, 0, none⟩)), (0, [], .pointer (some ⟨b, 0, none⟩))]) (congrArg (fun (xq : Int) => ([(62, [], .int .i64 ((t : Int) + 1)), (3, [], .int .u32 ((rv hs bl (t + 1)).a : Int)), (4, [], .int .u32 ((rv hs bl (t + 1)).b : Int)), (5, [], .int .u32 ((rv hs bl (t + 1)).c : Int)), (6, [], .int .u32 ((rv hs bl (t + 1)).d : Int)), (7, [], .int .u32 xq), (8, [], .int .u32 ((rv hs bl t).e : Int)), (9, [], .int .u32 ((rv hs bl t).f : Int)), (10, [], .int .u32 ((rv hs bl t).g : Int)), (2, [], .pointer (some ⟨xw, 0, none⟩)), (0, [], .pointer (some ⟨b, 0, none⟩))] : Env)) (rv_e hs bl t)) ?_
      refine Cfg.setG (Γ' := [(62, [], .int .i64 ((t : Int) + 1)), (3, [], .int .u32 ((rv hs bl (t + 1)).a : Int)), (4, [], .int .u32 ((rv hs bl (t + 1)).b : Int)), (5, [], .int .u32 ((rv hs bl (t + 1)).c : Int)), (6, [], .int .u32 ((rv hs bl (t + 1)).d : Int)), (7, [], .int .u32 ((rv hs bl (t + 1)).e : Int)), (8, [], .int .u32 ((rv hs bl (t + 1)).f : Int)), (9, [], .int .u32 ((rv hs bl t).f : Int)), (10, [], .int .u32 ((rv hs bl t).g : Int)), (2, [], .pointer (some ⟨xw, 0, none⟩)), (0, [], .pointer (some ⟨b, 0, none⟩))]) (congrArg (fun (xq : Int) => ([(62, [], .int .i64 ((t : Int) + 1)), (3, [], .int .u32 ((rv hs bl (t + 1)).a : Int)), (4, [], .int .u32 ((rv hs bl (t + 1)).b : Int)), (5, [], .int .u32 ((rv hs bl (t + 1)).c : Int)), (6, [], .int .u32 ((rv hs bl (t + 1)).d : Int)), (7, [], .int .u32 ((rv hs bl (t + 1)).e : Int)), (8, [], .int .u32 xq), (9, [], .int .u32 ((rv hs bl t).f : Int)), (10, [], .int .u32 ((rv hs bl t).g : Int)), (2, [], .pointer (some ⟨xw, 0, none⟩)), (0, [], .pointer (some ⟨b, 0, none⟩))] : Env)) (rv_f hs bl t)) ?_
      refine Cfg.setG (Γ' := [(62, [], .int .i64 ((t : Int) + 1)), (3, [], .int .u32 ((rv hs bl (t + 1)).a : Int)), (4, [], .int .u32 ((rv hs bl (t + 1)).b : Int)), (5, [], .int .u32 ((rv hs bl (t + 1)).c : Int)), (6, [], .int .u32 ((rv hs bl (t + 1)).d : Int)), (7, [], .int .u32 ((rv hs bl (t + 1)).e : Int)), (8, [], .int .u32 ((rv hs bl (t + 1)).f : Int)), (9, [], .int .u32 ((rv hs bl (t + 1)).g : Int)), (10, [], .int .u32 ((rv hs bl t).g : Int)), (2, [], .pointer (some ⟨xw, 0, none⟩)), (0, [], .pointer (some ⟨b, 0, none⟩))]) (congrArg (fun (xq : Int) => ([(62, [], .int .i64 ((t : Int) + 1)), (3, [], .int .u32 ((rv hs bl (t + 1)).a : Int)), (4, [], .int .u32 ((rv hs bl (t + 1)).b : Int)), (5, [], .int .u32 ((rv hs bl (t + 1)).c : Int)), (6, [], .int .u32 ((rv hs bl (t + 1)).d : Int)), (7, [], .int .u32 ((rv hs bl (t + 1)).e : Int)), (8, [], .int .u32 ((rv hs bl (t + 1)).f : Int)), (9, [], .int .u32 xq), (10, [], .int .u32 ((rv hs bl t).g : Int)), (2, [], .pointer (some ⟨xw, 0, none⟩)), (0, [], .pointer (some ⟨b, 0, none⟩))] : Env)) (rv_g hs bl t)) ?_
      refine Cfg.setG (Γ' := [(62, [], .int .i64 ((t : Int) + 1)), (3, [], .int .u32 ((rv hs bl (t + 1)).a : Int)), (4, [], .int .u32 ((rv hs bl (t + 1)).b : Int)), (5, [], .int .u32 ((rv hs bl (t + 1)).c : Int)), (6, [], .int .u32 ((rv hs bl (t + 1)).d : Int)), (7, [], .int .u32 ((rv hs bl (t + 1)).e : Int)), (8, [], .int .u32 ((rv hs bl (t + 1)).f : Int)), (9, [], .int .u32 ((rv hs bl (t + 1)).g : Int)), (10, [], .int .u32 ((rv hs bl (t + 1)).h : Int)), (2, [], .pointer (some ⟨xw, 0, none⟩)), (0, [], .pointer (some ⟨b, 0, none⟩))]) (congrArg (fun (xq : Int) => ([(62, [], .int .i64 ((t : Int) + 1)), (3, [], .int .u32 ((rv hs bl (t + 1)).a : Int)), (4, [], .int .u32 ((rv hs bl (t + 1)).b : Int)), (5, [], .int .u32 ((rv hs bl (t + 1)).c : Int)), (6, [], .int .u32 ((rv hs bl (t + 1)).d : Int)), (7, [], .int .u32 ((rv hs bl (t + 1)).e : Int)), (8, [], .int .u32 ((rv hs bl (t + 1)).f : Int)), (9, [], .int .u32 ((rv hs bl (t + 1)).g : Int)), (10, [], .int .u32 xq), (2, [], .pointer (some ⟨xw, 0, none⟩)), (0, [], .pointer (some ⟨b, 0, none⟩))] : Env)) (rv_h hs bl t)) ?_
      refine Cfg.again rfl (t + 1) (by show t + 1 ≤ 64; omega) (by show 64 - (t + 1) < 64 - t; omega) (Conv.mk (by kernel_rfl)) (.cons_cons _ (.cons_cons _ .slnil))
    · have c1 : (¬ ((t : Int) < (64 : Int))) := (of_decide_eq_false c1r)
      refine Cfg.reg rfl [0, 137, 138] [(0, false, none), (0, false, none), (0, false, none), (0, false, none), (0, false, none), (0, false, none), (0, false, none), (0, false, none), (0, false, some (.agg (wv (w8l (rv hs bl t)))))] (Γ' := [(138, [], .int .i64 0), (137, [], .agg (wv (w8l (rv hs bl t)))), (0, [], .pointer (some ⟨b, 0, none⟩))]) (nd := (fun S => [(∀ w1, S w1 → (Instr.build 205 #[(0, .int .u32 ((rv hs bl t).a : Int)), (1, .int .u32 ((rv hs bl t).b : Int)), (2, .int .u32 ((rv hs bl t).c : Int)), (3, .int .u32 ((rv hs bl t).d : Int)), (4, .int .u32 ((rv hs bl t).e : Int)), (5, .int .u32 ((rv hs bl t).f : Int)), (6, .int .u32 ((rv hs bl t).g : Int)), (7, .int .u32 ((rv hs bl t).h : Int))]).run Tryz.prog w1 = .ok (.agg (wv (w8l (rv hs bl t)))) w1)])) (fun _ => by kernel_rfl) ⟨(fun _ _ => by kernel_rfl), trivial⟩ ?_
      refine Cfg.loop rfl (ι := Nat) (fun (k : Nat) => [(138, [], .int .i64 (k : Int)), (137, [], .agg (wv (w8l (rv hs bl t)))), (0, [], .pointer (some ⟨b, 0, none⟩))]) (fun (k : Nat) => [(xw, .cells (wv (row bl 64)) 274 (0, 0)), (b, .cells (stC (sm hs (w8l (rv hs bl t)) k) bl held total) 208 (0, 0))]) (fun (k : Nat) => (k ≤ 8)) (fun (k : Nat) => 8 - k) 0 ?_ (Conv.mk (by kernel_rfl)) (.cons_cons _ (.cons_cons _ .slnil)) ?_
      · exact Nat.zero_le _
      · rintro k hk
        refine Cfg.reg rfl [0, 137, 138, 139] [] (Γ' := [(139, [], .bool (decide ((k : Int) < (8 : Int)))), (138, [], .int .i64 (k : Int)), (137, [], .agg (wv (w8l (rv hs bl t)))), (0, [], .pointer (some ⟨b, 0, none⟩))]) (nd := (fun _ => [])) (fun _ => by kernel_rfl) trivial ?_
        refine Cfg.cond rfl (b := (decide ((k : Int) < (8 : Int)))) (by kernel_rfl) (fun c2r => ?_) (fun c2r => ?_)
        · have c2 : ((k : Int) < (8 : Int)) := (of_decide_eq_true c2r)
          refine Cfg.reg rfl [0, 18, 19, 137, 138] [(0, false, none), (0, false, some (.int .u32 (rg (w8l (rv hs bl t)) k : Int)))] (Γ' := [(19, [], .int .u32 (rg (w8l (rv hs bl t)) k : Int)), (18, [], .int .i64 (k : Int)), (138, [], .int .i64 (k : Int)), (137, [], .agg (wv (w8l (rv hs bl t)))), (0, [], .pointer (some ⟨b, 0, none⟩))]) (nd := (fun _ => [(0 ≤ (k : Int) ∧ (k : Int) < (8 : Int)), (((wv (w8l (rv hs bl t))))[k]? = some (.int .u32 (rg (w8l (rv hs bl t)) k : Int)))])) (fun _ => by kernel_rfl) ⟨(by omega), (wv_get (w8l_len _) (by omega)), trivial⟩ ?_
          refine Cfg.begA rfl (by kernel_rfl) [(xw, .cells (wv (row bl 64)) 274 (0, 0))] ?_
          refine CfgA.pure [0, 1, 2, 3, 4, 6, 8, 9] [] (some [0, 137, 138, 143, 146, 148, 151]) (l' := #[true, true, true, true, true, false, true, false, true, true, false, false]) (by kernel_rfl) (by kernel_rfl) (.cons_cons _ (.cons _ .slnil)) 4 rfl (Γ' := [(151, [], .pointer (some ⟨b, 0, none⟩)), (148, [], .int .u32 (rg (w8l (rv hs bl t)) k : Int)), (146, [], .pointer (some ⟨b, k, none⟩)), (143, [], .int .i64 (k : Int)), (138, [], .int .i64 (k : Int)), (137, [], .agg (wv (w8l (rv hs bl t)))), (0, [], .pointer (some ⟨b, 0, none⟩))]) (nd := (fun _ => [(0 ≤ (k : Int) ∧ (k : Int) < (8 : Int))])) (fun _ => by kernel_rfl) ⟨(by omega), trivial⟩ ?_
          refine CfgA.eff 5 (o := _) rfl (by kernel_rfl) (fuel' := 3) rfl (by kernel_rfl) (by kernel_rfl) (Eff.quiet (raw := false) (orc := some (.int .u32 (rg (sm hs (w8l (rv hs bl t)) k) k : Int))) (v := .int .u32 (rg (sm hs (w8l (rv hs bl t)) k) k : Int)) (nd := (fun S => [(∀ w1, S w1 → w1.cell? ⟨b, k, none⟩ = some (.int .u32 (rg (sm hs (w8l (rv hs bl t)) k) k : Int)))])) (fun _ => by kernel_rfl) ⟨(fun w1 h => h.ocell 1 rfl (st_sum (sm_len _ hh k) (by omega))), trivial⟩ (by kernel_rfl)) (fun _ _ => (.cons_cons _ (.cons _ .slnil))) ?_
          rintro ⟨⟩ -
          refine CfgA.pure [7, 10] [] (some [0, 137, 138, 149, 152]) (l' := #[true, true, true, true, true, true, true, true, true, true, true, false]) (by kernel_rfl) (by kernel_rfl) (.cons_cons _ (.cons _ .slnil)) 1 rfl (Γ' := [(152, [], .pointer (some ⟨b, k, none⟩)), (149, [], .int .u32 (((rg (sm hs (w8l (rv hs bl t)) k) k : Int) + (rg (w8l (rv hs bl t)) k : Int)) % 4294967296)), (138, [], .int .i64 (k : Int)), (137, [], .agg (wv (w8l (rv hs bl t)))), (0, [], .pointer (some ⟨b, 0, none⟩))]) (nd := (fun _ => [(0 ≤ (k : Int) ∧ (k : Int) < (8 : Int))])) (fun _ => by kernel_rfl) ⟨(by omega), trivial⟩ ?_
          refine CfgA.eff 11 (o := _) rfl (by kernel_rfl) (fuel' := 0) rfl (by kernel_rfl) (by kernel_rfl) (Eff.store1 (b := b) (off := k) (v := .int .u32 (((rg (sm hs (w8l (rv hs bl t)) k) k : Int) + (rg (w8l (rv hs bl t)) k : Int)) % 4294967296)) rfl (by kernel_rfl) (by kernel_rfl) rfl (by kernel_rfl) 1 (cs := (stC (sm hs (w8l (rv hs bl t)) k) bl held total)) (e := 208) (by kernel_rfl) (by rw [st_size (sm_len _ hh k) hb]; omega)) (fun _ _ => (.cons_cons _ (.cons _ .slnil))) ?_
          rintro ⟨⟩ -
          refine CfgA.done (by kernel_rfl) ?_
          refine Conv.cfg (Γ' := [(138, [], .int .i64 (k : Int)), (137, [], .agg (wv (w8l (rv hs bl t)))), (0, [], .pointer (some ⟨b, 0, none⟩))]) (Conv.mk (by kernel_rfl)) ?_
          refine Cfg.reg rfl [0, 137, 138] [] (Γ' := [(138, [], .int .i64 ((k : Int) + 1)), (137, [], .agg (wv (w8l (rv hs bl t)))), (0, [], .pointer (some ⟨b, 0, none⟩))]) (nd := (fun _ => [((-9223372036854775808 : Int) ≤ ((k : Int) + 1) ∧ ((k : Int) + 1) ≤ 9223372036854775807)])) (fun _ => by kernel_rfl) ⟨(by omega), trivial⟩ ?_
          refine Cfg.setO (O' := [(xw, .cells (wv (row bl 64)) 274 (0, 0)), (b, .cells (stC (sm hs (w8l (rv hs bl t)) (k + 1)) bl held total) 208 (0, 0))]) (congrArg (fun (xq : Array Value) => ([(xw, .cells (wv (row bl 64)) 274 (0, 0)), (b, .cells xq 208 (0, 0))] : List (Nat × Obj))) (sm_step hh (by omega))) ?_
          refine Cfg.again rfl (k + 1) (by show k + 1 ≤ 8; omega) (by show 8 - (k + 1) < 8 - k; omega) (Conv.mk (by kernel_rfl)) (.cons_cons _ (.cons_cons _ .slnil))
        · have c2 : (¬ ((k : Int) < (8 : Int))) := (of_decide_eq_false c2r)
          refine Cfg.fin rfl (rs := []) rfl [] trivial (fun w1 hp => ?_)
          obtain rfl : t = 64 := by omega
          obtain rfl : k = 8 := by omega
          exact ⟨rfl, hp.ext, hp.own (b, _) (List.mem_cons_of_mem _ (List.mem_cons_self ..))⟩
end Go.Proofs.YtdjpokckamlccaaGreatDoor
namespace Go.Proofs.YtdjpokckamlccaaGreatDoor
open K
set_option linter.unusedVariables false
set_option maxRecDepth 100000 in
theorem shaWrite (b : Nat) (z : Sh) (total : Nat) (s : ByteArray) {kt : Array Value} {t0 : TypeId} {fr0 : Nat × Nat} (w : World) (hx : z.Ok) (hR : Has w [(0, .cells kt t0 fr0)]) (hS : w.heap[b]? = some (.cells (stC z.hs z.bl z.held total) 208 (0, 0))) (hne : b ≠ 0) (hK : KT kt := by assumption) :
    Calls Tryz.prog 51 #[.pointer (some ⟨b, 0, none⟩), .string s] w fun e w' => e = .returned (.tuple #[]) ∧ Ext [b] w w' ∧ w'.heap[b]? = some (.cells (stC (feed z s.data.toList).hs (feed z s.data.toList).bl (feed z s.data.toList).held ((total + s.size) % 18446744073709551616)) 208 (0, 0)) := by
  refine enter (vs := [.pointer (some ⟨b, 0, none⟩), .string s]) [b] [(0, .cells kt t0 fr0)] [(b, .cells (stC z.hs z.bl z.held total) 208 (0, 0))] Tryz.func51 rfl (by kernel_rfl) (HP.startM hR hS (by simpa using hne)) ?_
  refine Cfg.begL rfl ?_
  refine CfgL.pure 10 [(0, false, none), (0, false, none), (0, false, none), (0, false, some (.int .u64 (total : Int)))] (some [0, 1, 12, 14]) (Γ' := [(14, [], .pointer (some ⟨b, 73, none⟩)), (12, [], .int .u64 (((total : Int) + ((s.size : Int) % 18446744073709551616)) % 18446744073709551616)), (0, [], .pointer (some ⟨b, 0, none⟩)), (1, [], .string s)]) (nd := (fun S => [(∀ w1, S w1 → w1.cell? ⟨b, 73, none⟩ = some (.int .u64 (total : Int)))])) (by kernel_rfl) (fun _ => by kernel_rfl) ⟨(fun w1 h => h.ocell 0 rfl (st_total hx.hh hx.hb)), trivial⟩ ?_
  refine CfgL.eff (o := _) rfl (by kernel_rfl) (by kernel_rfl) (Eff.store1 (b := b) (off := 73) (v := .int .u64 (((total : Int) + ((s.size : Int) % 18446744073709551616)) % 18446744073709551616)) rfl (by kernel_rfl) (by kernel_rfl) rfl (by kernel_rfl) 0 (cs := (stC z.hs z.bl z.held total)) (e := 208) (by kernel_rfl) (by rw [st_size hx.hh hx.hb]; omega)) ?_
  rintro ⟨⟩ -
  refine CfgL.done rfl ?_
  refine Conv.cfg (Γ' := [(0, [], .pointer (some ⟨b, 0, none⟩)), (1, [], .string s)]) (Conv.mk (by kernel_rfl)) ?_
  refine Cfg.setO (O' := [(b, .cells (stC z.hs z.bl z.held ((total + s.size) % 18446744073709551616)) 208 (0, 0))]) (congrArg (fun (xq : Array Value) => ([(b, .cells xq 208 (0, 0))] : List (Nat × Obj))) (st_setTotal hx.hh hx.hb (by omega))) ?_
  refine Cfg.loop rfl (ι := ByteArray × Sh) (fun (xz : ByteArray × Sh) => match xz with | (p, y) => [(0, [], .pointer (some ⟨b, 0, none⟩)), (1, [], .string p)]) (fun (xz : ByteArray × Sh) => match xz with | (p, y) => [(b, .cells (stC y.hs y.bl y.held ((total + s.size) % 18446744073709551616)) 208 (0, 0))]) (fun (xz : ByteArray × Sh) => match xz with | (p, y) => (y.Ok) ∧ (feed y p.data.toList = feed z s.data.toList)) (fun (xz : ByteArray × Sh) => match xz with | (p, y) => p.size) (s, z) ?_ (Conv.mk (by kernel_rfl)) (.cons_cons _ .slnil) ?_
  · exact ⟨hx, rfl⟩
  · rintro ⟨p, y⟩ ⟨oky, hf⟩
    obtain ⟨hs, bl, held⟩ := y
    obtain ⟨hh, hb, hlt, hld⟩ := oky
    dsimp only at hh hb hlt hld
    have hcn : cn p held = min p.size (64 - held) := rfl
    refine Cfg.reg rfl [0, 1, 17] [] (Γ' := [(17, [], .bool (decide ((p.size : Int) > (0 : Int)))), (0, [], .pointer (some ⟨b, 0, none⟩)), (1, [], .string p)]) (nd := (fun _ => [])) (fun _ => by kernel_rfl) trivial ?_
    refine Cfg.cond rfl (b := (decide ((p.size : Int) > (0 : Int)))) (by kernel_rfl) (fun c1r => ?_) (fun c1r => ?_)
    · have c1 : ((p.size : Int) > (0 : Int)) := (of_decide_eq_true c1r)
      refine Cfg.begA rfl (by kernel_rfl) [] ?_
      refine CfgA.pure [0, 1, 2, 3, 4, 5, 8] [] (some [0, 1, 20, 23, 26]) (l' := #[true, true, true, true, true, true, false, false, true, false, false]) (by kernel_rfl) (by kernel_rfl) (.cons _ .slnil) 4 rfl (Γ' := [(26, [], .string p), (23, [], .pointer (some ⟨b, 72, none⟩)), (20, [], .pointer (some ⟨b, 8, none⟩)), (0, [], .pointer (some ⟨b, 0, none⟩)), (1, [], .string p)]) (nd := (fun _ => [])) (fun _ => by kernel_rfl) trivial ?_
      refine CfgA.eff 6 (o := _) rfl (by kernel_rfl) (fuel' := 3) rfl (by kernel_rfl) (by kernel_rfl) (Eff.quiet (raw := false) (orc := some (.int .i64 (held : Int))) (v := .int .i64 (held : Int)) (nd := (fun S => [(∀ w1, S w1 → w1.cell? ⟨b, 72, none⟩ = some (.int .i64 (held : Int)))])) (fun _ => by kernel_rfl) ⟨(fun w1 h => h.ocell 0 rfl (st_held hh hb)), trivial⟩ (by kernel_rfl)) (fun _ _ => List.nil_sublist _) ?_
      rintro ⟨⟩ -
      refine CfgA.pure [7] [] (some [0, 1, 25, 26]) (l' := #[true, true, true, true, true, true, true, true, true, false, false]) (by kernel_rfl) (by kernel_rfl) (.cons _ .slnil) 2 rfl (Γ' := [(25, [], .slice (some ⟨b, (if 64 = held then 8 else (addO 8 held)), none⟩) (64 - held) (64 - held)), (26, [], .string p), (0, [], .pointer (some ⟨b, 0, none⟩)), (1, [], .string p)]) (nd := (fun _ => [(0 ≤ (held : Int)), (held ≤ 64 ∧ 64 ≤ 64)])) (fun _ => by kernel_rfl) ⟨(by omega), (by omega), trivial⟩ ?_
      refine CfgA.eff 9 (o := _) rfl (by kernel_rfl) (fuel' := 1) rfl (by kernel_rfl) (by kernel_rfl) (Eff.copyS rfl Tryz.underlying154 (by kernel_rfl) (b := b) (off := (if 64 = held then 8 else (addO 8 held))) (dl := ((64 - held))) (c := ((64 - held))) (by kernel_rfl) (s := p) (by kernel_rfl) 0 (cs := (stC hs bl held ((total + s.size) % 18446744073709551616))) (te := 208) (by kernel_rfl) (cn p held) rfl (by rw [off_eq hld, st_size hh hb]; omega)) (fun _ _ => List.nil_sublist _) ?_
      rintro ⟨⟩ -
      refine CfgA.pure [10] [] (some [0, 1, 4]) (l' := #[true, true, true, true, true, true, true, true, true, true, true]) (by kernel_rfl) (by kernel_rfl) (.cons _ .slnil) 0 rfl (Γ' := [(4, [], .int .i64 ((cn p held) : Int)), (0, [], .pointer (some ⟨b, 0, none⟩)), (1, [], .string p)]) (nd := (fun _ => [])) (fun _ => by kernel_rfl) trivial ?_
      refine CfgA.done (by kernel_rfl) ?_
      refine Cfg.setO (O' := [(b, .cells (stC hs (lay bl held (p.data.toList.take (cn p held))) held ((total + s.size) % 18446744073709551616)) 208 (0, 0))]) (congrArg (fun (xq : Array Value) => ([(b, .cells xq 208 (0, 0))] : List (Nat × Obj))) (by rw [off_eq hld]; exact spl_lay _ hh hb (by rw [part_len (by omega)]; omega))) ?_
      refine Cfg.reg rfl [0, 1, 4] [] (Γ' := [(1, [], .string (p.extract (((cn p held))) p.size)), (4, [], .int .i64 ((cn p held) : Int)), (0, [], .pointer (some ⟨b, 0, none⟩))]) (nd := (fun _ => [(0 ≤ ((cn p held) : Int)), (((cn p held)) ≤ p.size ∧ p.size ≤ p.size)])) (fun _ => by kernel_rfl) ⟨(by omega), (by omega), trivial⟩ ?_
      refine Cfg.begL rfl ?_
      refine CfgL.pure 8 [(0, false, none), (0, false, none), (0, false, none), (0, false, some (.int .i64 (held : Int)))] (some [0, 1, 36, 38]) (Γ' := [(38, [], .pointer (some ⟨b, 72, none⟩)), (36, [], .int .i64 ((held : Int) + ((cn p held) : Int))), (1, [], .string (p.extract (((cn p held))) p.size)), (0, [], .pointer (some ⟨b, 0, none⟩))]) (nd := (fun S => [(∀ w1, S w1 → w1.cell? ⟨b, 72, none⟩ = some (.int .i64 (held : Int))), ((-9223372036854775808 : Int) ≤ ((held : Int) + ((cn p held) : Int)) ∧ ((held : Int) + ((cn p held) : Int)) ≤ 9223372036854775807)])) (by kernel_rfl) (fun _ => by kernel_rfl) ⟨(fun w1 h => h.ocell 0 rfl (st_held hh ((lay_len _ _ _).trans hb))), (by omega), trivial⟩ ?_
      refine CfgL.eff (o := _) rfl (by kernel_rfl) (by kernel_rfl) (Eff.store1 (b := b) (off := 72) (v := .int .i64 ((held : Int) + ((cn p held) : Int))) rfl (by kernel_rfl) (by kernel_rfl) rfl (by kernel_rfl) 0 (cs := (stC hs (lay bl held (p.data.toList.take (cn p held))) held ((total + s.size) % 18446744073709551616))) (e := 208) (by kernel_rfl) (by rw [st_size hh ((lay_len _ _ _).trans hb)]; omega)) ?_
      rintro ⟨⟩ -
      refine CfgL.done rfl ?_
      refine Conv.cfg (Γ' := [(1, [], .string (p.extract (((cn p held))) p.size)), (0, [], .pointer (some ⟨b, 0, none⟩))]) (Conv.mk (by kernel_rfl)) ?_
      refine Cfg.setO (O' := [(b, .cells (stC hs (lay bl held (p.data.toList.take (cn p held))) (held + (cn p held)) ((total + s.size) % 18446744073709551616)) 208 (0, 0))]) (congrArg (fun (xq : Array Value) => ([(b, .cells xq 208 (0, 0))] : List (Nat × Obj))) (st_setHeld hh ((lay_len _ _ _).trans hb) (by omega))) ?_
      refine Cfg.reg rfl [0, 1, 43] [(0, false, none), (0, false, none), (0, false, none), (0, false, some (.int .i64 ((held + (cn p held)) : Int)))] (Γ' := [(43, [], .bool (((held + (cn p held)) : Int) == (64 : Int))), (1, [], .string (p.extract (((cn p held))) p.size)), (0, [], .pointer (some ⟨b, 0, none⟩))]) (nd := (fun S => [(∀ w1, S w1 → w1.cell? ⟨b, 72, none⟩ = some (.int .i64 ((held + (cn p held)) : Int)))])) (fun _ => by kernel_rfl) ⟨(fun w1 h => h.ocell 0 rfl (st_held hh ((lay_len _ _ _).trans hb))), trivial⟩ ?_
      refine Cfg.cond rfl (b := (((held + (cn p held)) : Int) == (64 : Int))) (by kernel_rfl) (fun c2r => ?_) (fun c2r => ?_)
      · have c2 : (((held + (cn p held)) : Int) = (64 : Int)) := (beq_iff_eq.1 c2r)
        refine Cfg.begL rfl ?_
        refine CfgL.pure 1 [] (some [0, 1, 44]) (Γ' := [(44, [], .pointer (some ⟨b, 0, none⟩)), (1, [], .string (p.extract (((cn p held))) p.size)), (0, [], .pointer (some ⟨b, 0, none⟩))]) (nd := (fun _ => [])) (by kernel_rfl) (fun _ => by kernel_rfl) trivial ?_
        refine CfgL.eff (o := _) rfl (by kernel_rfl) (by kernel_rfl) (Eff.callM (vs := [.pointer (some ⟨b, 0, none⟩)]) (.tuple #[]) 0 (b := b) (ob := .cells (stC hs (lay bl held (p.data.toList.take (cn p held))) (held + (cn p held)) ((total + s.size) % 18446744073709551616)) 208 (0, 0)) (.cells (stC (mixF hs (lay bl held (p.data.toList.take (cn p held)))) (lay bl held (p.data.toList.take (cn p held))) (held + (cn p held)) ((total + s.size) % 18446744073709551616)) 208 (0, 0)) rfl Tryz.func110 rfl rfl (by kernel_rfl) (by kernel_rfl) (fun w1 h => shaMix b hs (lay bl held (p.data.toList.take (cn p held))) (held + (cn p held)) ((total + s.size) % 18446744073709551616) w1 hh ((lay_len _ _ _).trans hb) hlt (h.hasR (fun e he => he)) (h.own _ (List.mem_cons_self ..)) hne)) ?_
        rintro ⟨⟩ -
        refine CfgL.done rfl ?_
        refine Conv.cfg (Γ' := [(1, [], .string (p.extract (((cn p held))) p.size)), (0, [], .pointer (some ⟨b, 0, none⟩))]) (Conv.mk (by kernel_rfl)) ?_
        refine Cfg.begL rfl ?_
        refine CfgL.pure 3 [] (some [0, 1, 48]) (Γ' := [(48, [], .pointer (some ⟨b, 72, none⟩)), (1, [], .string (p.extract (((cn p held))) p.size)), (0, [], .pointer (some ⟨b, 0, none⟩))]) (nd := (fun _ => [])) (by kernel_rfl) (fun _ => by kernel_rfl) trivial ?_
        refine CfgL.eff (o := _) rfl (by kernel_rfl) (by kernel_rfl) (Eff.store1 (b := b) (off := 72) (v := .int .i64 0) rfl (by kernel_rfl) (by kernel_rfl) rfl (by kernel_rfl) 0 (cs := (stC (mixF hs (lay bl held (p.data.toList.take (cn p held)))) (lay bl held (p.data.toList.take (cn p held))) (held + (cn p held)) ((total + s.size) % 18446744073709551616))) (e := 208) (by kernel_rfl) (by rw [st_size (mixF_len _ hh) ((lay_len _ _ _).trans hb)]; omega)) ?_
        rintro ⟨⟩ -
        refine CfgL.done rfl ?_
        refine Conv.cfg (Γ' := [(1, [], .string (p.extract (((cn p held))) p.size)), (0, [], .pointer (some ⟨b, 0, none⟩))]) (Conv.mk (by kernel_rfl)) ?_
        have hfull : held + (cn p held) = 64 := by omega
        have hfd := feed_full (p.data.toList.take (cn p held)) hs bl held hld (by rw [part_len (by omega)]; omega)
        refine Cfg.setO (O' := [(b, .cells (stC (mixF hs (lay bl held (p.data.toList.take (cn p held)))) (lay bl held (p.data.toList.take (cn p held))) 0 ((total + s.size) % 18446744073709551616)) 208 (0, 0))]) (congrArg (fun (xq : Array Value) => ([(b, .cells xq 208 (0, 0))] : List (Nat × Obj))) (st_setHeld (mixF_len _ hh) ((lay_len _ _ _).trans hb) rfl)) ?_
        refine Cfg.again rfl (p.extract (cn p held) p.size, ⟨mixF hs (lay bl held (p.data.toList.take (cn p held))), (lay bl held (p.data.toList.take (cn p held))), 0⟩) ⟨by rw [← hfd]; exact feed_ok _ ⟨hh, hb, hlt, hld⟩, by rw [← hfd, feed_ext]; exact hf⟩ (by show (p.extract (cn p held) p.size).size < p.size; rw [ext_size _ _ (by omega)]; omega) (Conv.mk (by kernel_rfl)) (.cons_cons _ .slnil)
      · have c2 : (((held + (cn p held)) : Int) ≠ (64 : Int)) := (beq_eq_false_iff_ne.1 c2r)
        have hpart : held + (cn p held) < 64 := by omega
        have hfd := feed_part (p.data.toList.take (cn p held)) hs bl held (by rw [part_len (by omega)]; omega)
        rw [part_len (by omega)] at hfd
        refine Cfg.again rfl (p.extract (cn p held) p.size, ⟨hs, (lay bl held (p.data.toList.take (cn p held))), held + (cn p held)⟩) ⟨by rw [← hfd]; exact feed_ok _ ⟨hh, hb, hlt, hld⟩, by rw [← hfd, feed_ext]; exact hf⟩ (by show (p.extract (cn p held) p.size).size < p.size; rw [ext_size _ _ (by omega)]; omega) (Conv.mk (by kernel_rfl)) (.cons_cons _ .slnil)
    · have c1 : (¬ ((p.size : Int) > (0 : Int))) := (of_decide_eq_false c1r)
      refine Cfg.fin rfl (rs := []) rfl [] trivial (fun w1 hp => ?_)
      have hp0 : p.size = 0 := by omega
      have hnil : p.data.toList = [] := List.eq_nil_of_length_eq_zero (by simpa using hp0)
      rw [hnil, feed_nil] at hf
      rw [← hf]
      exact ⟨rfl, hp.ext, hp.own (b, _) (List.mem_cons_self ..)⟩
end Go.Proofs.YtdjpokckamlccaaGreatDoor
namespace Go.Proofs.YtdjpokckamlccaaGreatDoor
open K
set_option linter.unusedVariables false
theorem shaWrite1 (b : Nat) (z : Sh) (total : Nat) (c : UInt8) {kt : Array Value} {t0 : TypeId} {fr0 : Nat × Nat} (w : World) (hx : z.Ok) (hR : Has w [(0, .cells kt t0 fr0)]) (hS : w.heap[b]? = some (.cells (stC z.hs z.bl z.held total) 208 (0, 0))) (hne : b ≠ 0) (hK : KT kt := by assumption) :
    Calls Tryz.prog 51 #[.pointer (some ⟨b, 0, none⟩), .string ⟨#[c]⟩] w fun e w' => e = .returned (.tuple #[]) ∧ Ext [b] w w' ∧ w'.heap[b]? = some (.cells (stC (feedB z c).hs (feedB z c).bl (feedB z c).held ((total + 1) % 18446744073709551616)) 208 (0, 0)) :=
  shaWrite b z total ⟨#[c]⟩ w hx hR hS hne
set_option maxRecDepth 100000 in
theorem shaEndC (b : Nat) (z : Sh) (total : Nat) {kt : Array Value} {t0 : TypeId} {fr0 : Nat × Nat} (w : World) (hx : z.Ok) (hR : Has w [(0, .cells kt t0 fr0)]) (hS : w.heap[b]? = some (.cells (stC z.hs z.bl z.held total) 208 (0, 0))) (hne : b ≠ 0) (hK : KT kt := by assumption) :
    Calls Tryz.prog 52 #[.pointer (some ⟨b, 0, none⟩)] w fun e w' => e = .returned (.agg (bv (shaEnd z total))) ∧ Ext [b] w w' := by
  refine enter (vs := [.pointer (some ⟨b, 0, none⟩)]) [b] [(0, .cells kt t0 fr0)] [(b, .cells (stC z.hs z.bl z.held total) 208 (0, 0))] Tryz.func52 rfl (by kernel_rfl) (HP.startM hR hS (by simpa using hne)) ?_
  refine Cfg.begL rfl ?_
  refine CfgL.eff (o := _) rfl (by kernel_rfl) (by kernel_rfl) (Eff.alloc (z := (.agg (bv (List.replicate 32 0)))) rfl (by kernel_rfl)) ?_
  rintro r ⟨hr, nr⟩
  refine CfgL.done rfl ?_
  refine Cfg.reg rfl [0, 2, 3] [(0, false, none), (0, false, none), (0, false, none), (0, false, some (.int .u64 (total : Int)))] (Γ' := [(3, [], .int .u64 (((total : Int) * 8) % 18446744073709551616)), (2, [], .pointer (some ⟨r, 0, none⟩)), (0, [], .pointer (some ⟨b, 0, none⟩))]) (nd := (fun S => [(∀ w1, S w1 → w1.cell? ⟨b, 73, none⟩ = some (.int .u64 (total : Int)))])) (fun _ => by kernel_rfl) ⟨(fun w1 h => h.ocell 1 rfl (st_total hx.hh hx.hb)), trivial⟩ ?_
  refine Cfg.setG (Γ' := [(3, [], .int .u64 (lb total : Int)), (2, [], .pointer (some ⟨r, 0, none⟩)), (0, [], .pointer (some ⟨b, 0, none⟩))]) (congrArg (fun (xq : Int) => ([(3, [], .int .u64 xq), (2, [], .pointer (some ⟨r, 0, none⟩)), (0, [], .pointer (some ⟨b, 0, none⟩))] : Env)) (lb_eq total)) ?_
  refine Cfg.begL rfl ?_
  refine CfgL.pure 1 [] none (Γ' := [(14, [], .pointer (some ⟨b, 0, none⟩)), (3, [], .int .u64 (lb total : Int)), (2, [], .pointer (some ⟨r, 0, none⟩)), (0, [], .pointer (some ⟨b, 0, none⟩))]) (nd := (fun _ => [])) (by kernel_rfl) (fun _ => by kernel_rfl) trivial ?_
  refine CfgL.eff (o := _) rfl (by kernel_rfl) (by kernel_rfl) (Eff.callM (vs := [.pointer (some ⟨b, 0, none⟩), .string ⟨#[128]⟩]) (.tuple #[]) 1 (b := b) (ob := .cells (stC z.hs z.bl z.held total) 208 (0, 0)) (.cells (stC (feedB z 128).hs (feedB z 128).bl (feedB z 128).held ((total + 1) % 18446744073709551616)) 208 (0, 0)) rfl Tryz.func51 rfl rfl (by kernel_rfl) (by kernel_rfl) (fun w1 h => shaWrite1 b z total 128 w1 hx (h.hasR (fun e he => he)) (h.own _ (List.mem_of_getElem? (i := 1) rfl)) hne)) ?_
  rintro ⟨⟩ -
  refine CfgL.done rfl ?_
  refine Conv.cfg (Γ' := [(3, [], .int .u64 (lb total : Int)), (2, [], .pointer (some ⟨r, 0, none⟩)), (0, [], .pointer (some ⟨b, 0, none⟩))]) (Conv.mk (by kernel_rfl)) ?_
  refine Cfg.setO (O' := [(r, .cells (bv (List.replicate 32 0)) 35 (0, 0)), (b, .cells (stC (pz z 0).hs (pz z 0).bl (pz z 0).held (tj total 0)) 208 (0, 0))]) (congrArg (fun (xq : Array Value) => ([(r, .cells (bv (List.replicate 32 0)) 35 (0, 0)), (b, .cells xq 208 (0, 0))] : List (Nat × Obj))) (by rw [pz_zero, tj_zero])) ?_
  refine Cfg.loop rfl (ι := Nat) (fun (j : Nat) => [(3, [], .int .u64 (lb total : Int)), (2, [], .pointer (some ⟨r, 0, none⟩)), (0, [], .pointer (some ⟨b, 0, none⟩))]) (fun (j : Nat) => [(r, .cells (bv (List.replicate 32 0)) 35 (0, 0)), (b, .cells (stC (pz z j).hs (pz z j).bl (pz z j).held (tj total j)) 208 (0, 0))]) (fun (j : Nat) => (j ≤ padN z)) (fun (j : Nat) => padN z - j) 0 ?_ (Conv.mk (by kernel_rfl)) (.cons_cons _ (.cons_cons _ .slnil)) ?_
  · exact Nat.zero_le _
  · rintro j hj
    refine Cfg.reg rfl [0, 2, 3, 20] [(0, false, none), (0, false, none), (0, false, none), (0, false, some (.int .i64 ((pz z j).held : Int)))] (Γ' := [(20, [], .bool (((pz z j).held : Int) != (56 : Int))), (3, [], .int .u64 (lb total : Int)), (2, [], .pointer (some ⟨r, 0, none⟩)), (0, [], .pointer (some ⟨b, 0, none⟩))]) (nd := (fun S => [(∀ w1, S w1 → w1.cell? ⟨b, 72, none⟩ = some (.int .i64 ((pz z j).held : Int)))])) (fun _ => by kernel_rfl) ⟨(fun w1 h => h.ocell 1 rfl (st_held (pz_ok hx j).hh (pz_ok hx j).hb)), trivial⟩ ?_
    refine Cfg.cond rfl (b := (((pz z j).held : Int) != (56 : Int))) (by kernel_rfl) (fun c1r => ?_) (fun c1r => ?_)
    · have c1 : (((pz z j).held : Int) ≠ (56 : Int)) := (bne_iff_ne.1 c1r)
      refine Cfg.begL rfl ?_
      refine CfgL.pure 1 [] (some [0, 2, 3, 21]) (Γ' := [(21, [], .pointer (some ⟨b, 0, none⟩)), (3, [], .int .u64 (lb total : Int)), (2, [], .pointer (some ⟨r, 0, none⟩)), (0, [], .pointer (some ⟨b, 0, none⟩))]) (nd := (fun _ => [])) (by kernel_rfl) (fun _ => by kernel_rfl) trivial ?_
      refine CfgL.eff (o := _) rfl (by kernel_rfl) (by kernel_rfl) (Eff.callM (vs := [.pointer (some ⟨b, 0, none⟩), .string ⟨#[0]⟩]) (.tuple #[]) 1 (b := b) (ob := .cells (stC (pz z j).hs (pz z j).bl (pz z j).held (tj total j)) 208 (0, 0)) (.cells (stC (feedB (pz z j) 0).hs (feedB (pz z j) 0).bl (feedB (pz z j) 0).held ((tj total j + 1) % 18446744073709551616)) 208 (0, 0)) rfl Tryz.func51 rfl rfl (by kernel_rfl) (by kernel_rfl) (fun w1 h => shaWrite1 b (pz z j) (tj total j) 0 w1 (pz_ok hx j) (h.hasR (fun e he => he)) (h.own _ (List.mem_of_getElem? (i := 1) rfl)) hne)) ?_
      rintro ⟨⟩ -
      refine CfgL.done rfl ?_
      refine Conv.cfg (Γ' := [(3, [], .int .u64 (lb total : Int)), (2, [], .pointer (some ⟨r, 0, none⟩)), (0, [], .pointer (some ⟨b, 0, none⟩))]) (Conv.mk (by kernel_rfl)) ?_
      have hjn : j ≠ padN z := fun h => c1 ((pad_end hx hj).2 h)
      refine Cfg.setO (O' := [(r, .cells (bv (List.replicate 32 0)) 35 (0, 0)), (b, .cells (stC (pz z (j + 1)).hs (pz z (j + 1)).bl (pz z (j + 1)).held (tj total (j + 1))) 208 (0, 0))]) (congrArg (fun (xq : Array Value) => ([(r, .cells (bv (List.replicate 32 0)) 35 (0, 0)), (b, .cells xq 208 (0, 0))] : List (Nat × Obj))) (by rw [pz_succ, tj_succ])) ?_
      refine Cfg.again rfl (j + 1) (by show j + 1 ≤ padN z; omega) (by show padN z - (j + 1) < padN z - j; omega) (Conv.mk (by kernel_rfl)) (.cons_cons _ (.cons_cons _ .slnil))
    · have c1 : (((pz z j).held : Int) = (56 : Int)) := (bne_eq_false_iff_eq.1 c1r)
      obtain rfl : j = padN z := (pad_end hx hj).1 c1
      refine Cfg.begL rfl ?_
      refine CfgL.eff (o := _) rfl (by kernel_rfl) (by kernel_rfl) (Eff.alloc (z := (.agg (bv (List.replicate 8 0)))) rfl (by kernel_rfl)) ?_
      rintro tl ⟨htl, ntl⟩
      refine CfgL.done rfl ?_
      refine Conv.cfg (Γ' := [(4, [], .pointer (some ⟨tl, 0, none⟩)), (3, [], .int .u64 (lb total : Int)), (2, [], .pointer (some ⟨r, 0, none⟩)), (0, [], .pointer (some ⟨b, 0, none⟩))]) (Conv.mk (by kernel_rfl)) ?_
      refine Cfg.reg rfl [0, 2, 3, 4, 23] [] (Γ' := [(23, [], .int .i64 0), (4, [], .pointer (some ⟨tl, 0, none⟩)), (3, [], .int .u64 (lb total : Int)), (2, [], .pointer (some ⟨r, 0, none⟩)), (0, [], .pointer (some ⟨b, 0, none⟩))]) (nd := (fun _ => [])) (fun _ => by kernel_rfl) trivial ?_
      refine Cfg.loop rfl (ι := Nat) (fun (k1 : Nat) => [(23, [], .int .i64 (k1 : Int)), (4, [], .pointer (some ⟨tl, 0, none⟩)), (3, [], .int .u64 (lb total : Int)), (2, [], .pointer (some ⟨r, 0, none⟩)), (0, [], .pointer (some ⟨b, 0, none⟩))]) (fun (k1 : Nat) => [(tl, .cells (bv (tlr (lb total) k1)) 209 (0, 0)), (r, .cells (bv (List.replicate 32 0)) 35 (0, 0)), (b, .cells (stC (pz z (padN z)).hs (pz z (padN z)).bl (pz z (padN z)).held (tj total (padN z))) 208 (0, 0))]) (fun (k1 : Nat) => (k1 ≤ 8)) (fun (k1 : Nat) => 8 - k1) 0 ?_ (Conv.mk (by kernel_rfl)) (.cons_cons _ (.cons_cons _ (.cons_cons _ .slnil))) ?_
      · exact Nat.zero_le _
      · rintro k1 hk1
        refine Cfg.reg rfl [0, 2, 3, 4, 23, 24] [] (Γ' := [(24, [], .bool (decide ((k1 : Int) < (8 : Int)))), (23, [], .int .i64 (k1 : Int)), (4, [], .pointer (some ⟨tl, 0, none⟩)), (3, [], .int .u64 (lb total : Int)), (2, [], .pointer (some ⟨r, 0, none⟩)), (0, [], .pointer (some ⟨b, 0, none⟩))]) (nd := (fun _ => [])) (fun _ => by kernel_rfl) trivial ?_
        refine Cfg.cond rfl (b := (decide ((k1 : Int) < (8 : Int)))) (by kernel_rfl) (fun c2r => ?_) (fun c2r => ?_)
        · have c2 : ((k1 : Int) < (8 : Int)) := (of_decide_eq_true c2r)
          refine Cfg.reg rfl [0, 2, 3, 4, 5, 23] [] (Γ' := [(5, [], .int .i64 (k1 : Int)), (23, [], .int .i64 (k1 : Int)), (4, [], .pointer (some ⟨tl, 0, none⟩)), (3, [], .int .u64 (lb total : Int)), (2, [], .pointer (some ⟨r, 0, none⟩)), (0, [], .pointer (some ⟨b, 0, none⟩))]) (nd := (fun _ => [])) (fun _ => by kernel_rfl) trivial ?_
          refine Cfg.begL rfl ?_
          refine CfgL.pure 8 [] (some [0, 2, 3, 4, 23, 32, 33]) (Γ' := [(33, [], .pointer (some ⟨tl, k1, none⟩)), (32, [], .int .u8 (((lb total : Int) / ((2 ^ ((56 - (8 * (k1 : Int)))).toNat : Nat) : Int)) % 256)), (23, [], .int .i64 (k1 : Int)), (4, [], .pointer (some ⟨tl, 0, none⟩)), (3, [], .int .u64 (lb total : Int)), (2, [], .pointer (some ⟨r, 0, none⟩)), (0, [], .pointer (some ⟨b, 0, none⟩))]) (nd := (fun _ => [((-9223372036854775808 : Int) ≤ (8 * (k1 : Int)) ∧ (8 * (k1 : Int)) ≤ 9223372036854775807), ((-9223372036854775808 : Int) ≤ (56 - (8 * (k1 : Int))) ∧ (56 - (8 * (k1 : Int))) ≤ 9223372036854775807), (0 ≤ (56 - (8 * (k1 : Int))) ∧ ((56 - (8 * (k1 : Int)))).toNat ≤ 64), (0 ≤ (k1 : Int) ∧ (k1 : Int) < (8 : Int))])) (by kernel_rfl) (fun _ => by kernel_rfl) ⟨(by omega), (by omega), (by omega), (by omega), trivial⟩ ?_
          refine CfgL.eff (o := _) rfl (by kernel_rfl) (by kernel_rfl) (Eff.store1 (b := tl) (off := k1) (v := .int .u8 (((lb total : Int) / ((2 ^ ((56 - (8 * (k1 : Int)))).toNat : Nat) : Int)) % 256)) rfl (by kernel_rfl) (by kernel_rfl) rfl (by kernel_rfl) 0 (cs := (bv (tlr (lb total) k1))) (e := 209) (by kernel_rfl) (by rw [bv_size, tlr_len hk1]; omega)) ?_
          rintro ⟨⟩ -
          refine CfgL.done rfl ?_
          refine Conv.cfg (Γ' := [(23, [], .int .i64 (k1 : Int)), (4, [], .pointer (some ⟨tl, 0, none⟩)), (3, [], .int .u64 (lb total : Int)), (2, [], .pointer (some ⟨r, 0, none⟩)), (0, [], .pointer (some ⟨b, 0, none⟩))]) (Conv.mk (by kernel_rfl)) ?_
          refine Cfg.reg rfl [0, 2, 3, 4, 23] [] (Γ' := [(23, [], .int .i64 ((k1 : Int) + 1)), (4, [], .pointer (some ⟨tl, 0, none⟩)), (3, [], .int .u64 (lb total : Int)), (2, [], .pointer (some ⟨r, 0, none⟩)), (0, [], .pointer (some ⟨b, 0, none⟩))]) (nd := (fun _ => [((-9223372036854775808 : Int) ≤ ((k1 : Int) + 1) ∧ ((k1 : Int) + 1) ≤ 9223372036854775807)])) (fun _ => by kernel_rfl) ⟨(by omega), trivial⟩ ?_
          refine Cfg.setO (O' := [(tl, .cells (bv (tlr (lb total) (k1 + 1))) 209 (0, 0)), (r, .cells (bv (List.replicate 32 0)) 35 (0, 0)), (b, .cells (stC (pz z (padN z)).hs (pz z (padN z)).bl (pz z (padN z)).held (tj total (padN z))) 208 (0, 0))]) (congrArg (fun (xq : Array Value) => ([(tl, .cells xq 209 (0, 0)), (r, .cells (bv (List.replicate 32 0)) 35 (0, 0)), (b, .cells (stC (pz z (padN z)).hs (pz z (padN z)).bl (pz z (padN z)).held (tj total (padN z))) 208 (0, 0))] : List (Nat × Obj))) (tlr_step (by omega) rfl)) ?_
          refine Cfg.again rfl (k1 + 1) (by show k1 + 1 ≤ 8; omega) (by show 8 - (k1 + 1) < 8 - k1; omega) (Conv.mk (by kernel_rfl)) (.cons_cons _ (.cons_cons _ (.cons_cons _ .slnil)))
        · have c2 : (¬ ((k1 : Int) < (8 : Int))) := (of_decide_eq_false c2r)
          obtain rfl : k1 = 8 := by omega
          refine Conv.cfg (Γ' := [(4, [], .pointer (some ⟨tl, 0, none⟩)), (3, [], .int .u64 (lb total : Int)), (2, [], .pointer (some ⟨r, 0, none⟩)), (0, [], .pointer (some ⟨b, 0, none⟩))]) (Conv.mk (by kernel_rfl)) ?_
          refine Cfg.begL rfl ?_
          refine CfgL.pure 3 [(0, false, none), (0, false, none), (0, false, some (.string (tls (lb total))))] (some [0, 2, 35, 37]) (Γ' := [(37, [], .string (tls (lb total))), (35, [], .pointer (some ⟨b, 0, none⟩)), (2, [], .pointer (some ⟨r, 0, none⟩)), (0, [], .pointer (some ⟨b, 0, none⟩))]) (nd := (fun S => [(8 ≤ 8), (∀ w1, S w1 → (Conv.bytesToString (.slice (some ⟨tl, 0, none⟩) 8 8)).run Tryz.prog w1 = .ok (.string (tls (lb total))) w1)])) (by kernel_rfl) (fun _ => by kernel_rfl) ⟨(by omega), (fun w1 h => h.ostr 0 rfl (tlr_len (Nat.le_refl 8))), trivial⟩ ?_
          refine CfgL.eff (o := _) rfl (by kernel_rfl) (by kernel_rfl) (Eff.callM (vs := [.pointer (some ⟨b, 0, none⟩), .string (tls (lb total))]) (.tuple #[]) 2 (b := b) (ob := .cells (stC (pz z (padN z)).hs (pz z (padN z)).bl (pz z (padN z)).held (tj total (padN z))) 208 (0, 0)) (.cells (stC (z3 z total).hs (z3 z total).bl (z3 z total).held ((tj total (padN z) + (tls (lb total)).size) % 18446744073709551616)) 208 (0, 0)) rfl Tryz.func51 rfl rfl (by kernel_rfl) (by kernel_rfl) (fun w1 h => shaWrite b (pz z (padN z)) (tj total (padN z)) (tls (lb total)) w1 (pz_ok hx _) (h.hasR (fun e he => he)) (h.own _ (List.mem_of_getElem? (i := 2) rfl)) hne)) ?_
          rintro ⟨⟩ -
          refine CfgL.done rfl ?_
          refine Conv.cfg (Γ' := [(2, [], .pointer (some ⟨r, 0, none⟩)), (0, [], .pointer (some ⟨b, 0, none⟩))]) (Conv.mk (by kernel_rfl)) ?_
          refine Cfg.begL rfl ?_
          refine CfgL.eff (o := _) rfl (by kernel_rfl) (by kernel_rfl) (Eff.alloc (z := (.agg (bv (List.replicate 32 0)))) rfl (by kernel_rfl)) ?_
          rintro d ⟨hd, nd⟩
          refine CfgL.done rfl ?_
          refine Cfg.reg rfl [2, 6, 42, 43] [(0, false, none), (0, false, none), (0, false, none), (0, false, some (.agg (wv (z3 z total).hs)))] (Γ' := [(43, [], .int .i64 0), (42, [], .agg (wv (z3 z total).hs)), (6, [], .pointer (some ⟨d, 0, none⟩)), (2, [], .pointer (some ⟨r, 0, none⟩))]) (nd := (fun S => [(∀ w1, S w1 → (loadVar 205 ⟨b, 0, none⟩).run Tryz.prog w1 = .ok (.agg (wv (z3 z total).hs)) w1)])) (fun _ => by kernel_rfl) ⟨(fun w1 h => load_words Tryz.underlying205 rfl (by kernel_rfl) (z3_ok hx total).hh (fun j hj => h.ocell 3 rfl (by rw [Nat.zero_add]; exact st_sum (z3_ok hx total).hh hj))), trivial⟩ ?_
          refine Cfg.loop rfl (ι := Nat) (fun (k2 : Nat) => [(43, [], .int .i64 (k2 : Int)), (42, [], .agg (wv (z3 z total).hs)), (6, [], .pointer (some ⟨d, 0, none⟩)), (2, [], .pointer (some ⟨r, 0, none⟩))]) (fun (k2 : Nat) => [(d, .cells (bv (dgr (z3 z total).hs k2)) 35 (0, 0)), (tl, .cells (bv (tlr (lb total) 8)) 209 (0, 0)), (r, .cells (bv (List.replicate 32 0)) 35 (0, 0)), (b, .cells (stC (z3 z total).hs (z3 z total).bl (z3 z total).held ((tj total (padN z) + (tls (lb total)).size) % 18446744073709551616)) 208 (0, 0))]) (fun (k2 : Nat) => (k2 ≤ 8)) (fun (k2 : Nat) => 8 - k2) 0 ?_ (Conv.mk (by kernel_rfl)) (.cons_cons _ (.cons_cons _ (.cons_cons _ (.cons_cons _ .slnil)))) ?_
          · exact Nat.zero_le _
          · rintro k2 hk2
            refine Cfg.reg rfl [2, 6, 42, 43, 44] [] (Γ' := [(44, [], .bool (decide ((k2 : Int) < (8 : Int)))), (43, [], .int .i64 (k2 : Int)), (42, [], .agg (wv (z3 z total).hs)), (6, [], .pointer (some ⟨d, 0, none⟩)), (2, [], .pointer (some ⟨r, 0, none⟩))]) (nd := (fun _ => [])) (fun _ => by kernel_rfl) trivial ?_
            refine Cfg.cond rfl (b := (decide ((k2 : Int) < (8 : Int)))) (by kernel_rfl) (fun c3r => ?_) (fun c3r => ?_)
            · have c3 : ((k2 : Int) < (8 : Int)) := (of_decide_eq_true c3r)
              refine Cfg.reg rfl [2, 6, 7, 8, 42, 43] [(0, false, none), (0, false, some (.int .u32 (rg (z3 z total).hs k2 : Int)))] (Γ' := [(8, [], .int .u32 (rg (z3 z total).hs k2 : Int)), (7, [], .int .i64 (k2 : Int)), (43, [], .int .i64 (k2 : Int)), (42, [], .agg (wv (z3 z total).hs)), (6, [], .pointer (some ⟨d, 0, none⟩)), (2, [], .pointer (some ⟨r, 0, none⟩))]) (nd := (fun _ => [(0 ≤ (k2 : Int) ∧ (k2 : Int) < (8 : Int)), (((wv (z3 z total).hs))[k2]? = some (.int .u32 (rg (z3 z total).hs k2 : Int)))])) (fun _ => by kernel_rfl) ⟨(by omega), (wv_get (z3_ok hx total).hh (by omega)), trivial⟩ ?_
              refine Cfg.begL rfl ?_
              refine CfgL.pure 6 [] (some [2, 6, 7, 8, 42, 43, 51, 52]) (Γ' := [(52, [], .pointer (some ⟨d, (4 * k2), none⟩)), (51, [], .int .u8 (((rg (z3 z total).hs k2 : Int) / 16777216) % 256)), (8, [], .int .u32 (rg (z3 z total).hs k2 : Int)), (7, [], .int .i64 (k2 : Int)), (43, [], .int .i64 (k2 : Int)), (42, [], .agg (wv (z3 z total).hs)), (6, [], .pointer (some ⟨d, 0, none⟩)), (2, [], .pointer (some ⟨r, 0, none⟩))]) (nd := (fun _ => [((-9223372036854775808 : Int) ≤ (4 * (k2 : Int)) ∧ (4 * (k2 : Int)) ≤ 9223372036854775807), (0 ≤ (24 : Int) ∧ 24 ≤ 32), (0 ≤ (4 * (k2 : Int)) ∧ (4 * (k2 : Int)) < (32 : Int))])) (by kernel_rfl) (fun _ => by kernel_rfl) ⟨(by omega), (by omega), (by omega), trivial⟩ ?_
              refine CfgL.eff (o := _) rfl (by kernel_rfl) (by kernel_rfl) (Eff.store1 (b := d) (off := (4 * k2)) (v := .int .u8 (((rg (z3 z total).hs k2 : Int) / 16777216) % 256)) rfl (by kernel_rfl) (by kernel_rfl) rfl (by kernel_rfl) 0 (cs := (bv (dgr (z3 z total).hs k2))) (e := 35) (by kernel_rfl) (by first | (rw [dsz _ hk2]; omega) | (simp only [Array.size_setIfInBounds, dsz _ hk2]; omega))) ?_
              rintro ⟨⟩ -
              refine CfgL.done rfl ?_
              refine Conv.cfg (Γ' := [(8, [], .int .u32 (rg (z3 z total).hs k2 : Int)), (7, [], .int .i64 (k2 : Int)), (43, [], .int .i64 (k2 : Int)), (42, [], .agg (wv (z3 z total).hs)), (6, [], .pointer (some ⟨d, 0, none⟩)), (2, [], .pointer (some ⟨r, 0, none⟩))]) (Conv.mk (by kernel_rfl)) ?_
              refine Cfg.begL rfl ?_
              refine CfgL.pure 7 [] (some [2, 6, 7, 8, 42, 43, 58, 59]) (Γ' := [(59, [], .pointer (some ⟨d, ((4 * k2) + 1), none⟩)), (58, [], .int .u8 (((rg (z3 z total).hs k2 : Int) / 65536) % 256)), (8, [], .int .u32 (rg (z3 z total).hs k2 : Int)), (7, [], .int .i64 (k2 : Int)), (43, [], .int .i64 (k2 : Int)), (42, [], .agg (wv (z3 z total).hs)), (6, [], .pointer (some ⟨d, 0, none⟩)), (2, [], .pointer (some ⟨r, 0, none⟩))]) (nd := (fun _ => [((-9223372036854775808 : Int) ≤ (4 * (k2 : Int)) ∧ (4 * (k2 : Int)) ≤ 9223372036854775807), ((-9223372036854775808 : Int) ≤ ((4 * (k2 : Int)) + 1) ∧ ((4 * (k2 : Int)) + 1) ≤ 9223372036854775807), (0 ≤ (16 : Int) ∧ 16 ≤ 32), (0 ≤ ((4 * (k2 : Int)) + 1) ∧ ((4 * (k2 : Int)) + 1) < (32 : Int))])) (by kernel_rfl) (fun _ => by kernel_rfl) ⟨(by omega), (by omega), (by omega), (by omega), trivial⟩ ?_
              refine CfgL.eff (o := _) rfl (by kernel_rfl) (by kernel_rfl) (Eff.store1 (b := d) (off := ((4 * k2) + 1)) (v := .int .u8 (((rg (z3 z total).hs k2 : Int) / 65536) % 256)) rfl (by kernel_rfl) (by kernel_rfl) rfl (by kernel_rfl) 0 (cs := ((bv (dgr (z3 z total).hs k2)).setIfInBounds (4 * k2) (.int .u8 (((rg (z3 z total).hs k2 : Int) / 16777216) % 256)))) (e := 35) (by kernel_rfl) (by first | (rw [dsz _ hk2]; omega) | (simp only [Array.size_setIfInBounds, dsz _ hk2]; omega))) ?_
              rintro ⟨⟩ -
              refine CfgL.done rfl ?_
              refine Conv.cfg (Γ' := [(8, [], .int .u32 (rg (z3 z total).hs k2 : Int)), (7, [], .int .i64 (k2 : Int)), (43, [], .int .i64 (k2 : Int)), (42, [], .agg (wv (z3 z total).hs)), (6, [], .pointer (some ⟨d, 0, none⟩)), (2, [], .pointer (some ⟨r, 0, none⟩))]) (Conv.mk (by kernel_rfl)) ?_
              refine Cfg.begL rfl ?_
              refine CfgL.pure 7 [] (some [2, 6, 7, 8, 42, 43, 65, 66]) (Γ' := [(66, [], .pointer (some ⟨d, ((4 * k2) + 2), none⟩)), (65, [], .int .u8 (((rg (z3 z total).hs k2 : Int) / 256) % 256)), (8, [], .int .u32 (rg (z3 z total).hs k2 : Int)), (7, [], .int .i64 (k2 : Int)), (43, [], .int .i64 (k2 : Int)), (42, [], .agg (wv (z3 z total).hs)), (6, [], .pointer (some ⟨d, 0, none⟩)), (2, [], .pointer (some ⟨r, 0, none⟩))]) (nd := (fun _ => [((-9223372036854775808 : Int) ≤ (4 * (k2 : Int)) ∧ (4 * (k2 : Int)) ≤ 9223372036854775807), ((-9223372036854775808 : Int) ≤ ((4 * (k2 : Int)) + 2) ∧ ((4 * (k2 : Int)) + 2) ≤ 9223372036854775807), (0 ≤ (8 : Int) ∧ 8 ≤ 32), (0 ≤ ((4 * (k2 : Int)) + 2) ∧ ((4 * (k2 : Int)) + 2) < (32 : Int))])) (by kernel_rfl) (fun _ => by kernel_rfl) ⟨(by omega), (by omega), (by omega), (by omega), trivial⟩ ?_
              refine CfgL.eff (o := _) rfl (by kernel_rfl) (by kernel_rfl) (Eff.store1 (b := d) (off := ((4 * k2) + 2)) (v := .int .u8 (((rg (z3 z total).hs k2 : Int) / 256) % 256)) rfl (by kernel_rfl) (by kernel_rfl) rfl (by kernel_rfl) 0 (cs := (((bv (dgr (z3 z total).hs k2)).setIfInBounds (4 * k2) (.int .u8 (((rg (z3 z total).hs k2 : Int) / 16777216) % 256))).setIfInBounds ((4 * k2) + 1) (.int .u8 (((rg (z3 z total).hs k2 : Int) / 65536) % 256)))) (e := 35) (by kernel_rfl) (by first | (rw [dsz _ hk2]; omega) | (simp only [Array.size_setIfInBounds, dsz _ hk2]; omega))) ?_
              rintro ⟨⟩ -
              refine CfgL.done rfl ?_
              refine Conv.cfg (Γ' := [(8, [], .int .u32 (rg (z3 z total).hs k2 : Int)), (7, [], .int .i64 (k2 : Int)), (43, [], .int .i64 (k2 : Int)), (42, [], .agg (wv (z3 z total).hs)), (6, [], .pointer (some ⟨d, 0, none⟩)), (2, [], .pointer (some ⟨r, 0, none⟩))]) (Conv.mk (by kernel_rfl)) ?_
              refine Cfg.begL rfl ?_
              refine CfgL.pure 6 [] (some [2, 6, 42, 43, 71, 72]) (Γ' := [(72, [], .pointer (some ⟨d, ((4 * k2) + 3), none⟩)), (71, [], .int .u8 ((rg (z3 z total).hs k2 : Int) % 256)), (43, [], .int .i64 (k2 : Int)), (42, [], .agg (wv (z3 z total).hs)), (6, [], .pointer (some ⟨d, 0, none⟩)), (2, [], .pointer (some ⟨r, 0, none⟩))]) (nd := (fun _ => [((-9223372036854775808 : Int) ≤ (4 * (k2 : Int)) ∧ (4 * (k2 : Int)) ≤ 9223372036854775807), ((-9223372036854775808 : Int) ≤ ((4 * (k2 : Int)) + 3) ∧ ((4 * (k2 : Int)) + 3) ≤ 9223372036854775807), (0 ≤ ((4 * (k2 : Int)) + 3) ∧ ((4 * (k2 : Int)) + 3) < (32 : Int))])) (by kernel_rfl) (fun _ => by kernel_rfl) ⟨(by omega), (by omega), (by omega), trivial⟩ ?_
              refine CfgL.eff (o := _) rfl (by kernel_rfl) (by kernel_rfl) (Eff.store1 (b := d) (off := ((4 * k2) + 3)) (v := .int .u8 ((rg (z3 z total).hs k2 : Int) % 256)) rfl (by kernel_rfl) (by kernel_rfl) rfl (by kernel_rfl) 0 (cs := ((((bv (dgr (z3 z total).hs k2)).setIfInBounds (4 * k2) (.int .u8 (((rg (z3 z total).hs k2 : Int) / 16777216) % 256))).setIfInBounds ((4 * k2) + 1) (.int .u8 (((rg (z3 z total).hs k2 : Int) / 65536) % 256))).setIfInBounds ((4 * k2) + 2) (.int .u8 (((rg (z3 z total).hs k2 : Int) / 256) % 256)))) (e := 35) (by kernel_rfl) (by first | (rw [dsz _ hk2]; omega) | (simp only [Array.size_setIfInBounds, dsz _ hk2]; omega))) ?_
              rintro ⟨⟩ -
              refine CfgL.done rfl ?_
              refine Conv.cfg (Γ' := [(43, [], .int .i64 (k2 : Int)), (42, [], .agg (wv (z3 z total).hs)), (6, [], .pointer (some ⟨d, 0, none⟩)), (2, [], .pointer (some ⟨r, 0, none⟩))]) (Conv.mk (by kernel_rfl)) ?_
              refine Cfg.reg rfl [2, 6, 42, 43] [] (Γ' := [(43, [], .int .i64 ((k2 : Int) + 1)), (42, [], .agg (wv (z3 z total).hs)), (6, [], .pointer (some ⟨d, 0, none⟩)), (2, [], .pointer (some ⟨r, 0, none⟩))]) (nd := (fun _ => [((-9223372036854775808 : Int) ≤ ((k2 : Int) + 1) ∧ ((k2 : Int) + 1) ≤ 9223372036854775807)])) (fun _ => by kernel_rfl) ⟨(by omega), trivial⟩ ?_
              refine Cfg.setO (O' := [(d, .cells (bv (dgr (z3 z total).hs (k2 + 1))) 35 (0, 0)), (tl, .cells (bv (tlr (lb total) 8)) 209 (0, 0)), (r, .cells (bv (List.replicate 32 0)) 35 (0, 0)), (b, .cells (stC (z3 z total).hs (z3 z total).bl (z3 z total).held ((tj total (padN z) + (tls (lb total)).size) % 18446744073709551616)) 208 (0, 0))]) (congrArg (fun (xq : Array Value) => ([(d, .cells xq 35 (0, 0)), (tl, .cells (bv (tlr (lb total) 8)) 209 (0, 0)), (r, .cells (bv (List.replicate 32 0)) 35 (0, 0)), (b, .cells (stC (z3 z total).hs (z3 z total).bl (z3 z total).held ((tj total (padN z) + (tls (lb total)).size) % 18446744073709551616)) 208 (0, 0))] : List (Nat × Obj))) (dgr_step _ (by omega) rfl rfl rfl rfl)) ?_
              refine Cfg.again rfl (k2 + 1) (by show k2 + 1 ≤ 8; omega) (by show 8 - (k2 + 1) < 8 - k2; omega) (Conv.mk (by kernel_rfl)) (.cons_cons _ (.cons_cons _ (.cons_cons _ (.cons_cons _ .slnil))))
            · have c3 : (¬ ((k2 : Int) < (8 : Int))) := (of_decide_eq_false c3r)
              refine Cfg.begL rfl ?_
              refine CfgL.pure 1 [(0, false, some (.agg (bv (dgr (z3 z total).hs k2))))] (some [2, 74]) (Γ' := [(74, [], .agg (bv (dgr (z3 z total).hs k2))), (2, [], .pointer (some ⟨r, 0, none⟩))]) (nd := (fun S => [(∀ w1, S w1 → (loadVar 35 ⟨d, 0, none⟩).run Tryz.prog w1 = .ok (.agg (bv (dgr (z3 z total).hs k2))) w1)])) (by kernel_rfl) (fun _ => by kernel_rfl) ⟨(fun w1 h => h.oload 0 rfl Tryz.underlying35 rfl (n := 32) (by kernel_rfl) (dsz _ hk2)), trivial⟩ ?_
              refine CfgL.eff (o := _) rfl (by kernel_rfl) (by kernel_rfl) (Eff.storeN (b := r) (off := 0) (vs := (bv (dgr (z3 z total).hs k2))) (n := 32) rfl (by kernel_rfl) (by kernel_rfl) (by kernel_rfl) (dsz _ hk2) (all_bv _) 2 (cs := (bv (List.replicate 32 0))) (e := 35) (by kernel_rfl) (by rw [zsz]; omega)) ?_
              rintro ⟨⟩ -
              refine CfgL.setO (O' := [(d, .cells (bv (dgr (z3 z total).hs k2)) 35 (0, 0)), (tl, .cells (bv (tlr (lb total) 8)) 209 (0, 0)), (r, .cells (bv (dgr (z3 z total).hs k2)) 35 (0, 0)), (b, .cells (stC (z3 z total).hs (z3 z total).bl (z3 z total).held ((tj total (padN z) + (tls (lb total)).size) % 18446744073709551616)) 208 (0, 0))]) (congrArg (fun (xq : Array Value) => ([(d, .cells (bv (dgr (z3 z total).hs k2)) 35 (0, 0)), (tl, .cells (bv (tlr (lb total) 8)) 209 (0, 0)), (r, .cells xq 35 (0, 0)), (b, .cells (stC (z3 z total).hs (z3 z total).bl (z3 z total).held ((tj total (padN z) + (tls (lb total)).size) % 18446744073709551616)) 208 (0, 0))] : List (Nat × Obj))) (spl_all ((dsz _ hk2).trans zsz.symm))) ?_
              refine CfgL.done rfl ?_
              refine Conv.cfg (Γ' := [(2, [], .pointer (some ⟨r, 0, none⟩))]) (Conv.mk (by kernel_rfl)) ?_
              refine Cfg.ret rfl (rs := [.cell 2 35]) rfl [.agg (bv (dgr (z3 z total).hs k2))] ⟨⟨_, by kernel_rfl, (fun w1 h => h.oload 2 rfl Tryz.underlying35 rfl (n := 32) (by kernel_rfl) (dsz _ hk2))⟩, trivial⟩ (fun w1 hp => ?_)
              obtain rfl : k2 = 8 := by omega
              exact ⟨rfl, hp.ext⟩
end Go.Proofs.YtdjpokckamlccaaGreatDoor
namespace Go.Proofs.YtdjpokckamlccaaGreatDoor
open K
set_option linter.unusedVariables false
set_option maxRecDepth 100000 in
theorem shaBegin (w : World) :
    Calls Tryz.prog 50 #[] w fun e w' => ∃ b : Nat, True ∧ e = .returned (.pointer (some ⟨b, 0, none⟩)) ∧ w.heap.size ≤ b ∧ w'.heap[b]? = some (.cells (stC H8 (List.replicate 64 0) 0 0) 208 (0, 0)) ∧ Ext [] w w' := by
  refine enter (vs := []) [] [] [] Tryz.func50 rfl (by kernel_rfl) (HP.start w) ?_
  refine Cfg.reg rfl [] [] (Γ' := []) (nd := (fun _ => [])) (fun _ => by kernel_rfl) trivial ?_
  refine Cfg.begL rfl ?_
  refine CfgL.pure 2 [(0, false, some (.agg (wv H8))), (0, false, some (.agg (stC H8 (List.replicate 64 0) 0 0)))] (some [2]) (Γ' := [(2, [], .agg (stC H8 (List.replicate 64 0) 0 0))]) (nd := (fun S => [(∀ w1, S w1 → (Instr.build 205 #[(0, .int .u32 1779033703), (1, .int .u32 3144134277), (2, .int .u32 1013904242), (3, .int .u32 2773480762), (4, .int .u32 1359893119), (5, .int .u32 2600822924), (6, .int .u32 528734635), (7, .int .u32 1541459225)]).run Tryz.prog w1 = .ok (.agg (wv H8)) w1), (∀ w1, S w1 → (Instr.build 208 #[(0, .agg (wv H8))]).run Tryz.prog w1 = .ok (.agg (stC H8 (List.replicate 64 0) 0 0)) w1)])) (by kernel_rfl) (fun _ => by kernel_rfl) ⟨(fun _ _ => by kernel_rfl), (fun _ _ => by kernel_rfl), trivial⟩ ?_
  refine CfgL.eff (o := _) rfl (by kernel_rfl) (by kernel_rfl) (Eff.box (v := .agg (stC H8 (List.replicate 64 0) 0 0)) rfl (by kernel_rfl)) ?_
  rintro b1 ⟨hb1, nb1⟩
  refine CfgL.pure 1 [] (some [0]) (Γ' := [(0, [], .pointer (some ⟨b1, 0, none⟩))]) (nd := (fun _ => [])) (by kernel_rfl) (fun _ => by kernel_rfl) trivial ?_
  refine CfgL.done rfl ?_
  refine Cfg.ret rfl (rs := [.tmp 0]) rfl [.pointer (some ⟨b1, 0, none⟩)] ⟨by kernel_rfl, trivial⟩ (fun w1 hp => ?_)
  exact ⟨b1, trivial, rfl, hb1, hp.own (b1, _) (List.mem_cons_self ..), hp.ext⟩
set_option maxRecDepth 100000 in
theorem shaSum (la : Option Addr) (cap : Nat) (ss : List ByteArray) (Rl : List (Nat × Obj)) {kt : Array Value} {t0 : TypeId} {fr0 : Nat × Nat} (w : World) (hI : InS Rl la ss.length (fun j => .string (ssat ss j))) (hn : ss.length ≤ maxLen) (hR : Has w ((0, .cells kt t0 fr0) :: Rl)) (hK : KT kt := by assumption) :
    Calls Tryz.prog 21 #[.slice la ss.length cap] w fun e w' => e = .returned (.agg (bv (shaD (scat ss)))) ∧ Ext [] w w' := by
  unfold maxLen at hn
  have h0 : 0 < w.heap.size := lt_of_get (hR _ (List.mem_cons_self ..))
  refine enter (vs := [.slice la ss.length cap]) [] ((0, .cells kt t0 fr0) :: Rl) [] Tryz.func21 rfl (by kernel_rfl) (HP.ofHas hR) ?_
  refine Cfg.begL rfl ?_
  refine CfgL.eff (o := _) rfl (by kernel_rfl) (by kernel_rfl) (Eff.alloc (z := (.agg (bv (List.replicate 32 0)))) rfl (by kernel_rfl)) ?_
  rintro r ⟨hr, nr⟩
  refine CfgL.done rfl ?_
  refine Cfg.begL rfl ?_
  refine CfgL.eff (o := _) rfl (by kernel_rfl) (by kernel_rfl) (Eff.callN (vs := []) (fun b : Nat => .pointer (some ⟨b, 0, none⟩)) (fun b => b) (fun _ => .cells (stC H8 (List.replicate 64 0) 0 0) 208 (0, 0)) (fun _ => True) rfl Tryz.func50 rfl rfl (by kernel_rfl) (fun w1 _ => shaBegin w1)) ?_
  rintro b ⟨-, hb, nb⟩
  have hne : b ≠ 0 := by have : w.heap.size ≤ b := hb; omega
  refine CfgL.pure 1 [] (some [0, 2, 3]) (Γ' := [(3, [], .pointer (some ⟨b, 0, none⟩)), (2, [], .pointer (some ⟨r, 0, none⟩)), (0, [], .slice la ss.length cap)]) (nd := (fun _ => [])) (by kernel_rfl) (fun _ => by kernel_rfl) trivial ?_
  refine CfgL.done rfl ?_
  refine Cfg.reg rfl [2, 3, 7, 8, 9] [] (Γ' := [(9, [], .int .i64 0), (8, [], .int .i64 (ss.length : Int)), (7, [], .slice la ss.length cap), (3, [], .pointer (some ⟨b, 0, none⟩)), (2, [], .pointer (some ⟨r, 0, none⟩))]) (nd := (fun _ => [])) (fun _ => by kernel_rfl) trivial ?_
  refine Cfg.loop rfl (ι := Nat) (fun (i : Nat) => [(9, [], .int .i64 (i : Int)), (8, [], .int .i64 (ss.length : Int)), (7, [], .slice la ss.length cap), (3, [], .pointer (some ⟨b, 0, none⟩)), (2, [], .pointer (some ⟨r, 0, none⟩))]) (fun (i : Nat) => [(b, .cells (stC (sz ss i).hs (sz ss i).bl (sz ss i).held (tt ss i)) 208 (0, 0)), (r, .cells (bv (List.replicate 32 0)) 35 (0, 0))]) (fun (i : Nat) => (i ≤ ss.length)) (fun (i : Nat) => ss.length - i) 0 ?_ (Conv.mk (by kernel_rfl)) (.cons_cons _ (.cons_cons _ .slnil)) ?_
  · exact Nat.zero_le _
  · rintro i hi
    refine Cfg.reg rfl [2, 3, 7, 8, 9, 10] [] (Γ' := [(10, [], .bool (decide ((i : Int) < (ss.length : Int)))), (9, [], .int .i64 (i : Int)), (8, [], .int .i64 (ss.length : Int)), (7, [], .slice la ss.length cap), (3, [], .pointer (some ⟨b, 0, none⟩)), (2, [], .pointer (some ⟨r, 0, none⟩))]) (nd := (fun _ => [])) (fun _ => by kernel_rfl) trivial ?_
    refine Cfg.cond rfl (b := (decide ((i : Int) < (ss.length : Int)))) (by kernel_rfl) (fun c1r => ?_) (fun c1r => ?_)
    · have c1 : ((i : Int) < (ss.length : Int)) := (of_decide_eq_true c1r)
      obtain ⟨sb, off, cs, te, fre, rfl, hmem, hcs⟩ := hI (by omega)
      refine Conv.cfg (Γ' := [(10, [], .bool (decide ((i : Int) < (ss.length : Int)))), (9, [], .int .i64 (i : Int)), (8, [], .int .i64 (ss.length : Int)), (7, [], .slice (some ⟨sb, off, none⟩) ss.length cap), (3, [], .pointer (some ⟨b, 0, none⟩)), (2, [], .pointer (some ⟨r, 0, none⟩))]) (Conv.mk (by kernel_rfl)) ?_
      refine Cfg.reg rfl [2, 3, 5, 7, 8, 9] [(0, false, none), (0, false, some (.string (ssat ss i)))] (Γ' := [(5, [], .string (ssat ss i)), (9, [], .int .i64 (i : Int)), (8, [], .int .i64 (ss.length : Int)), (7, [], .slice (some ⟨sb, off, none⟩) ss.length cap), (3, [], .pointer (some ⟨b, 0, none⟩)), (2, [], .pointer (some ⟨r, 0, none⟩))]) (nd := (fun S => [(0 ≤ (i : Int) ∧ (i : Int) < (ss.length : Int)), (∀ w1, S w1 → w1.cell? ⟨sb, (addO off i), none⟩ = some (.string (ssat ss i)))])) (fun _ => by kernel_rfl) ⟨(by omega), (fun w1 h => by rw [addO_eq]; exact (cell_cells (h.ro _ (List.mem_cons_of_mem _ hmem))).trans (hcs i (by omega))), trivial⟩ ?_
      refine Cfg.begL rfl ?_
      refine CfgL.pure 2 [] (some [2, 3, 7, 8, 9, 13, 14]) (Γ' := [(14, [], .string (ssat ss i)), (13, [], .pointer (some ⟨b, 0, none⟩)), (9, [], .int .i64 (i : Int)), (8, [], .int .i64 (ss.length : Int)), (7, [], .slice (some ⟨sb, off, none⟩) ss.length cap), (3, [], .pointer (some ⟨b, 0, none⟩)), (2, [], .pointer (some ⟨r, 0, none⟩))]) (nd := (fun _ => [])) (by kernel_rfl) (fun _ => by kernel_rfl) trivial ?_
      refine CfgL.eff (o := _) rfl (by kernel_rfl) (by kernel_rfl) (Eff.callM (vs := [.pointer (some ⟨b, 0, none⟩), .string (ssat ss i)]) (.tuple #[]) 0 (b := b) (ob := .cells (stC (sz ss i).hs (sz ss i).bl (sz ss i).held (tt ss i)) 208 (0, 0)) (.cells (stC (feed (sz ss i) (ssat ss i).data.toList).hs (feed (sz ss i) (ssat ss i).data.toList).bl (feed (sz ss i) (ssat ss i).data.toList).held ((tt ss i + (ssat ss i).size) % 18446744073709551616)) 208 (0, 0)) rfl Tryz.func51 rfl rfl (by kernel_rfl) (by kernel_rfl) (fun w1 h => shaWrite b (sz ss i) (tt ss i) (ssat ss i) w1 (sz_ok ss i) (h.hasR (fun e he => by rw [List.mem_singleton.1 he]; exact List.mem_cons_self ..)) (h.own _ (List.mem_of_getElem? (i := 0) rfl)) hne)) ?_
      rintro ⟨⟩ -
      refine CfgL.done rfl ?_
      refine Conv.cfg (Γ' := [(9, [], .int .i64 (i : Int)), (8, [], .int .i64 (ss.length : Int)), (7, [], .slice (some ⟨sb, off, none⟩) ss.length cap), (3, [], .pointer (some ⟨b, 0, none⟩)), (2, [], .pointer (some ⟨r, 0, none⟩))]) (Conv.mk (by kernel_rfl)) ?_
      refine Cfg.reg rfl [2, 3, 7, 8, 9] [] (Γ' := [(9, [], .int .i64 ((i : Int) + 1)), (8, [], .int .i64 (ss.length : Int)), (7, [], .slice (some ⟨sb, off, none⟩) ss.length cap), (3, [], .pointer (some ⟨b, 0, none⟩)), (2, [], .pointer (some ⟨r, 0, none⟩))]) (nd := (fun _ => [((-9223372036854775808 : Int) ≤ ((i : Int) + 1) ∧ ((i : Int) + 1) ≤ 9223372036854775807)])) (fun _ => by kernel_rfl) ⟨(by omega), trivial⟩ ?_
      refine Cfg.setO (O' := [(b, .cells (stC (sz ss (i + 1)).hs (sz ss (i + 1)).bl (sz ss (i + 1)).held (tt ss (i + 1))) 208 (0, 0)), (r, .cells (bv (List.replicate 32 0)) 35 (0, 0))]) (congrArg (fun (xq : Array Value) => ([(b, .cells xq 208 (0, 0)), (r, .cells (bv (List.replicate 32 0)) 35 (0, 0))] : List (Nat × Obj))) (by rw [sz_succ (by omega), tt_succ (by omega)])) ?_
      refine Cfg.again rfl (i + 1) (by show i + 1 ≤ ss.length; omega) (by show ss.length - (i + 1) < ss.length - i; omega) (Conv.mk (by kernel_rfl)) (.cons_cons _ (.cons_cons _ .slnil))
    · have c1 : (¬ ((i : Int) < (ss.length : Int))) := (of_decide_eq_false c1r)
      obtain rfl : i = ss.length := by omega
      refine Conv.cfg (Γ' := [(8, [], .int .i64 (ss.length : Int)), (7, [], .slice la ss.length cap), (3, [], .pointer (some ⟨b, 0, none⟩)), (2, [], .pointer (some ⟨r, 0, none⟩))]) (Conv.mk (by kernel_rfl)) ?_
      refine Cfg.begL rfl ?_
      refine CfgL.pure 1 [] (some [2, 17]) (Γ' := [(17, [], .pointer (some ⟨b, 0, none⟩)), (2, [], .pointer (some ⟨r, 0, none⟩))]) (nd := (fun _ => [])) (by kernel_rfl) (fun _ => by kernel_rfl) trivial ?_
      refine CfgL.eff (o := _) rfl (by kernel_rfl) (by kernel_rfl) (Eff.callD (vs := [.pointer (some ⟨b, 0, none⟩)]) (.agg (bv (shaD (scat ss)))) 0 (b := b) (ob := .cells (stC (sz ss ss.length).hs (sz ss ss.length).bl (sz ss ss.length).held (tt ss ss.length)) 208 (0, 0)) rfl Tryz.func52 rfl rfl (by kernel_rfl) (by kernel_rfl) (fun w1 h => by have := shaEndC b (sz ss ss.length) (tt ss ss.length) w1 (sz_ok ss _) (h.hasR (fun e he => by rw [List.mem_singleton.1 he]; exact List.mem_cons_self ..)) (h.own _ (List.mem_of_getElem? (i := 0) rfl)) hne; rw [sz_all] at this; exact this)) ?_
      rintro ⟨⟩ -
      refine CfgL.eff (o := _) rfl (by kernel_rfl) (by kernel_rfl) (Eff.storeN (b := r) (off := 0) (vs := (bv (shaD (scat ss)))) (n := 32) rfl (by kernel_rfl) (by kernel_rfl) (by kernel_rfl) (dz _) (all_bv _) 0 (cs := (bv (List.replicate 32 0))) (e := 35) (by kernel_rfl) (by rw [zsz]; omega)) ?_
      rintro ⟨⟩ -
      refine CfgL.setO (O' := [(r, .cells (bv (shaD (scat ss))) 35 (0, 0))]) (congrArg (fun (xq : Array Value) => ([(r, .cells xq 35 (0, 0))] : List (Nat × Obj))) (spl_all ((dz _).trans zsz.symm))) ?_
      refine CfgL.done rfl ?_
      refine Conv.cfg (Γ' := [(2, [], .pointer (some ⟨r, 0, none⟩))]) (Conv.mk (by kernel_rfl)) ?_
      refine Cfg.ret rfl (rs := [.cell 2 35]) rfl [.agg (bv (shaD (scat ss)))] ⟨⟨_, by kernel_rfl, (fun w1 h => h.oload 0 rfl Tryz.underlying35 rfl (n := 32) (by kernel_rfl) (dz _))⟩, trivial⟩ (fun w1 hp => ?_)
      exact ⟨rfl, hp.ext⟩
end Go.Proofs.YtdjpokckamlccaaGreatDoor
namespace Go.Proofs.YtdjpokckamlccaaGreatDoor
open K
set_option linter.unusedVariables false
def un8 (L : List Nat) : List UInt8 := L.map UInt8.ofNat
def mixes : Nat → List UInt8 → List Nat → List Nat
  | 0, _, hs => hs
  | k + 1, l, hs => mixes k (l.drop 64) (mixF hs (l.take 64))
theorem lay_all : ∀ (l A B : List UInt8), B.length = l.length → lay (A ++ B) A.length l = A ++ l
  | [], A, B, h => by rw [List.eq_nil_of_length_eq_zero (l := B) (by simpa using h)]; rfl
  | x :: l, A, B, h => by
    match B, h with
    | y :: B, h =>
      have e : (A ++ y :: B).set A.length x = (A ++ [x]) ++ B := by simp
      have := lay_all l (A ++ [x]) B (by simpa using h)
      rw [lay, e]
      rw [List.length_append] at this
      simpa using this
theorem feed_mixes : ∀ (k : Nat) (l : List UInt8) (hs : List Nat) (bl : List UInt8), l.length = 64 * k → bl.length = 64 → (feed ⟨hs, bl, 0⟩ l).hs = mixes k l hs
  | 0, l, hs, bl, h, _ => by rw [List.eq_nil_of_length_eq_zero (l := l) (by omega)]; rfl
  | k + 1, l, hs, bl, h, hb => by
    have h1 : (l.take 64).length = 64 := by rw [List.length_take]; omega
    have hf := feed_full (l.take 64) hs bl 0 (by decide) (by omega)
    have hla : lay bl 0 (l.take 64) = l.take 64 := by
      have := lay_all (l.take 64) [] bl (by omega)
      simpa using this
    rw [hla] at hf
    have := feed_app ⟨hs, bl, 0⟩ (l.take 64) (l.drop 64)
    rw [List.take_append_drop] at this
    rw [this, hf, feed_mixes k (l.drop 64) _ _ (by rw [List.length_drop]; omega) h1, mixes]
/-- What stands behind N bytes. -/
def tailN (N : Nat) : List Nat := 128 :: (List.replicate ((119 - N % 64) % 64) 0 ++ (List.range 8).map fun i => lb (N % 18446744073709551616) / 2 ^ (56 - 8 * i) % 256)
theorem u8_ofmod (m : Nat) : UInt8.ofNat (m % 256) = UInt8.ofNat m := u8mod m
theorem un8_tail (N : Nat) : un8 (tailN N) = 128 :: (List.replicate ((119 - N % 64) % 64) 0 ++ tlr (lb (N % 18446744073709551616)) 8) := by
  unfold un8 tailN tlr tb
  rw [List.map_cons, List.map_append, List.map_replicate, List.map_map]
  congr 2
  simp only [Nat.sub_self, List.replicate_zero, List.append_nil]
  apply List.map_congr_left
  intro i _
  exact u8_ofmod _
theorem shaD_mixes (l : List UInt8) {k : Nat} (hk : l.length + (tailN l.length).length = 64 * k) : shaD l = dgr (mixes k (l ++ un8 (tailN l.length)) H8) 8 := by
  have hh : (feed sh0 l).held = l.length % 64 := by
    have := feed_held l sh0_ok
    rw [this]
    show (0 + l.length) % 64 = _
    rw [Nat.zero_add]
  unfold shaD shaEnd z3 pz padN
  rw [← feed_app, ← feed_app, hh]
  have e : l ++ ((128 :: List.replicate ((119 - l.length % 64) % 64) 0) ++ tlr (lb (l.length % 18446744073709551616)) 8) = l ++ un8 (tailN l.length) := by
    rw [un8_tail, List.cons_append]
  rw [e]
  congr 1
  exact feed_mixes k _ H8 _ (by rw [List.length_append]; unfold un8; rw [List.length_map]; exact hk) (by rw [List.length_replicate])
theorem tailN_len (N : Nat) : (N + (tailN N).length) % 64 = 0 := by
  unfold tailN
  rw [List.length_cons, List.length_append, List.length_replicate, List.length_map, List.length_range]
  omega
end Go.Proofs.YtdjpokckamlccaaGreatDoor
namespace Go.Proofs.YtdjpokckamlccaaGreatDoor
open K
set_option linter.unusedVariables false
theorem row_at (bl : List UInt8) : ∀ (n j : Nat), j < n → n ≤ 64 → rg (row bl n) j = wnext bl (row bl j) j
  | n + 1, j, h, hn => by
    rw [row]
    unfold rg
    rw [List.getD_eq_getElem?_getD, List.getElem?_set]
    by_cases hj : n = j
    · subst hj
      rw [if_pos rfl, if_pos (by rw [row_len]; omega)]; rfl
    · rw [if_neg hj, ← List.getD_eq_getElem?_getD]
      exact row_at bl n j (by omega) (by omega)
theorem row_low (bl : List UInt8) {t j : Nat} (hj : j < t) (ht : t ≤ 64) : rg (row bl t) j = rg (row bl 64) j := by
  rw [row_at bl t j hj ht, row_at bl 64 j (by omega) (Nat.le_refl _)]
namespace I
/-- The rounds over constants ks; the block's words that are still to come; the words so far, the newest first. -/
noncomputable def goK {β : Type} (c : W8 → β) : List Nat → List Nat → List Nat → W8 → β
  | [], _, _, s => c s
  | k :: ks, bs, win, s =>
    fN (match bs with | b :: _ => b | [] => wn4 (win.getD 1 0) (win.getD 6 0) (win.getD 14 0) (win.getD 15 0)) fun w =>
    fN (frst k w s) fun f1 => fN ((f1 + scnd s) % 4294967296) fun a => fN ((s.d + f1) % 4294967296) fun e =>
    goK c ks bs.tail (w :: win) ⟨a, s.a, s.b, s.c, e, s.e, s.f, s.g⟩
def wds (bl : List UInt8) : List Nat := (List.range 16).map (shBe bl)
theorem goK_ok {β : Type} (c : W8 → β) (hs : List Nat) (bl : List UInt8) : ∀ (m t : Nat), t + m = 64 → goK c (Kc.drop t) ((wds bl).drop t) (((row bl 64).take t).reverse) (rv hs bl t) = c (rv hs bl 64)
  | 0, t, h => by
    obtain rfl : t = 64 := by omega
    rfl
  | m + 1, t, h => by
    have ht : t < 64 := by omega
    have hk : Kc.drop t = rg Kc t :: Kc.drop (t + 1) := by
      rw [List.drop_eq_getElem_cons (show t < Kc.length from ht)]
      unfold rg
      rw [List.getD_eq_getElem?_getD, List.getElem?_eq_getElem (show t < Kc.length from ht)]; rfl
    have hw : (match (wds bl).drop t with | b :: _ => b | [] => wn4 ((((row bl 64).take t).reverse).getD 1 0) ((((row bl 64).take t).reverse).getD 6 0) ((((row bl 64).take t).reverse).getD 14 0) ((((row bl 64).take t).reverse).getD 15 0)) = rg (row bl 64) t := by
      rw [row_at bl 64 t ht (Nat.le_refl _)]
      unfold wnext
      by_cases h16 : t < 16
      · rw [if_pos h16, List.drop_eq_getElem_cons (show t < (wds bl).length by simp [wds]; omega)]
        simp [wds]
      · rw [if_neg h16, List.drop_eq_nil_of_le (show (wds bl).length ≤ t by simp [wds]; omega)]
        have hg : ∀ i, i < 16 → (((row bl 64).take t).reverse).getD i 0 = rg (row bl t) (t - 1 - i) := fun i hi => by
          rw [row_low bl (show t - 1 - i < t by omega) (by omega)]
          unfold rg
          have hl : ((row bl 64).take t).length = t := by rw [List.length_take, row_len]; omega
          rw [List.getD_eq_getElem?_getD, List.getElem?_reverse (by omega), hl, List.getElem?_take, if_pos (by omega), List.getD_eq_getElem?_getD]
        simp only
        rw [hg 1 (by omega), hg 6 (by omega), hg 14 (by omega), hg 15 (by omega), show t - 1 - 1 = t - 2 by omega, show t - 1 - 6 = t - 7 by omega, show t - 1 - 14 = t - 15 by omega, show t - 1 - 15 = t - 16 by omega]
    rw [hk]
    unfold goK
    rw [fN_eq, fN_eq, fN_eq, fN_eq, hw]
    have hr : rg (row bl 64) t :: ((row bl 64).take t).reverse = ((row bl 64).take (t + 1)).reverse := by
      rw [List.take_succ_eq_append_getElem (show t < (row bl 64).length by rw [row_len]; omega), List.reverse_append]
      unfold rg
      rw [List.getD_eq_getElem?_getD, List.getElem?_eq_getElem (show t < (row bl 64).length by rw [row_len]; omega)]; rfl
    have hd : ((wds bl).drop t).tail = (wds bl).drop (t + 1) := by rw [List.tail_drop]
    rw [hr, hd]
    have := goK_ok c hs bl m (t + 1) (by omega)
    rw [rv_succ] at this
    rw [← rnd_def]
    exact this
def addW (x y : W8) : W8 := ⟨(x.a + y.a) % 4294967296, (x.b + y.b) % 4294967296, (x.c + y.c) % 4294967296, (x.d + y.d) % 4294967296, (x.e + y.e) % 4294967296, (x.f + y.f) % 4294967296, (x.g + y.g) % 4294967296, (x.h + y.h) % 4294967296⟩
theorem sm_add (x y : W8) : sm (w8l x) (w8l y) 8 = w8l (addW x y) := rfl
noncomputable def fW {β : Type} (x : W8) (c : W8 → β) : β :=
  fN x.a fun a => fN x.b fun b => fN x.c fun c' => fN x.d fun d => fN x.e fun e => fN x.f fun f => fN x.g fun g => fN x.h fun h => c ⟨a, b, c', d, e, f, g, h⟩
theorem fW_eq {β : Type} (x : W8) (c : W8 → β) : fW x c = c x := by simp only [fW, fN_eq]
/-- m words off bytes. -/
noncomputable def wordsK {β : Type} (c : List Nat → List Nat → β) : Nat → List Nat → List Nat → β
  | 0, bs, acc => c acc bs
  | m + 1, bs, acc => match bs with
    | x :: y :: z :: v :: bs => fN (be4 x y z v) fun w => wordsK c m bs (acc ++ [w])
    | _ => c acc bs
theorem wordsK_ok {β : Type} (c : List Nat → List Nat → β) : ∀ (m : Nat) (bs acc : List Nat), 4 * m ≤ bs.length → wordsK c m bs acc = c (acc ++ (List.range m).map fun i => be4 (bs.getD (4 * i) 0) (bs.getD (4 * i + 1) 0) (bs.getD (4 * i + 2) 0) (bs.getD (4 * i + 3) 0)) (bs.drop (4 * m))
  | 0, bs, acc, _ => by simp [wordsK]
  | m + 1, bs, acc, h => by
    match bs, h with
    | x :: y :: z :: v :: bs, h =>
      simp only [List.length_cons] at h
      rw [wordsK, fN_eq, wordsK_ok c m bs _ (by omega), List.range_succ_eq_map, List.map_cons, List.map_map, List.append_assoc]
      have e5 : (x :: y :: z :: v :: bs).drop (4 * (m + 1)) = bs.drop (4 * m) := by rw [show 4 * (m + 1) = 4 * m + 4 by omega]; rfl
      rw [e5]
      congr 2
/-- The blocks of bytes. -/
noncomputable def blkK {β : Type} (c : W8 → β) : Nat → List Nat → W8 → β
  | 0, _, s => c s
  | k + 1, bs, s => wordsK (fun ws rest => goK (fun v => fW (addW s v) fun s' => blkK c k rest s') Kc ws [] s) 16 bs []
theorem un8_get {L : List Nat} (hL : ∀ b ∈ L, b < 256) {i : Nat} (h : i < 64) (hl : 64 ≤ L.length) : L.getD i 0 = bt4 (un8 (L.take 64)) i := by
  have h1 : i < L.length := by omega
  unfold bt4 un8
  rw [List.getD_eq_getElem?_getD, List.getD_eq_getElem?_getD, List.getElem?_map, List.getElem?_take, if_pos h, List.getElem?_eq_getElem h1]
  have := hL _ (List.getElem_mem h1)
  simp only [Option.map_some, Option.getD_some]
  simp
  omega
theorem blkK_ok {β : Type} (c : W8 → β) : ∀ (k : Nat) (L : List Nat) (s : W8), (∀ b ∈ L, b < 256) → L.length = 64 * k → ∃ v, blkK c k L s = c v ∧ w8l v = mixes k (un8 L) (w8l s)
  | 0, L, s, _, _ => ⟨s, rfl, rfl⟩
  | k + 1, L, s, hL, hl => by
    have hw : (List.range 16).map (fun i => be4 (L.getD (4 * i) 0) (L.getD (4 * i + 1) 0) (L.getD (4 * i + 2) 0) (L.getD (4 * i + 3) 0)) = wds (un8 (L.take 64)) := by
      unfold wds
      apply List.map_congr_left
      intro i hi
      have := List.mem_range.1 hi
      unfold shBe
      rw [un8_get hL (by omega) (by omega), un8_get hL (by omega) (by omega), un8_get hL (by omega) (by omega), un8_get hL (by omega) (by omega)]
    have hg := goK_ok (fun v => fW (addW s v) fun s' => blkK c k (L.drop 64) s') (w8l s) (un8 (L.take 64)) 64 0 rfl
    obtain ⟨v, h1, h2⟩ := blkK_ok c k (L.drop 64) (addW s (rv (w8l s) (un8 (L.take 64)) 64)) (fun b hb => hL b (List.mem_of_mem_drop hb)) (by rw [List.length_drop]; omega)
    refine ⟨v, ?_, ?_⟩
    · unfold blkK
      rw [wordsK_ok _ 16 L [] (by omega), hw, List.nil_append]
      have e0 : rv (w8l s) (un8 (L.take 64)) 0 = s := rfl
      rw [List.drop_zero, List.drop_zero, List.take_zero, e0] at hg
      refine Eq.trans hg ?_
      rw [fW_eq]; exact h1
    · rw [h2, mixes]
      have e1 : (un8 L).drop 64 = un8 (L.drop 64) := by unfold un8; rw [List.map_drop]
      have e2 : (un8 L).take 64 = un8 (L.take 64) := by unfold un8; rw [List.map_take]
      rw [e1, e2]
      unfold mixF
      rw [sm_add]
/-- n bytes of a number, the greatest first, ahead of acc. -/
noncomputable def bytesK {β : Type} (c : List Nat → β) : Nat → Nat → List Nat → β
  | 0, _, acc => c acc
  | n + 1, x, acc => fN (x % 256) fun b => fN (x / 256) fun y => bytesK c n y (b :: acc)
theorem val_snoc (l : List UInt8) (b : UInt8) : val (l ++ [b]) = val l * 256 + b.toNat := by
  have h : ∀ (l : List UInt8) (a : Nat), strOf (l ++ [b]) a = strOf l a * 256 + b.toNat := by
    intro l
    induction l with
    | nil => intro a; rfl
    | cons x l ih => intro a; exact ih _
  exact h l 0
theorem bytesK_ok {β : Type} (c : List Nat → β) : ∀ (n : Nat) (l : List UInt8) (acc : List Nat), l.length = n → bytesK c n (val l) acc = c (l.map UInt8.toNat ++ acc)
  | 0, l, acc, h => by rw [List.eq_nil_of_length_eq_zero h]; rfl
  | n + 1, l, acc, h => by
    obtain ⟨l', b, rfl⟩ : ∃ l' b, l = l' ++ [b] := by
      rcases List.eq_nil_or_concat l with h0 | ⟨l', b, h0⟩
      · rw [h0] at h; cases h
      · exact ⟨l', b, by rw [h0]; simp⟩
    have hb : b.toNat < 256 := UInt8.toNat_lt b
    rw [bytesK, fN_eq, fN_eq, val_snoc, show (val l' * 256 + b.toNat) % 256 = b.toNat by omega, show (val l' * 256 + b.toNat) / 256 = val l' by omega, bytesK_ok c n l' _ (by rw [List.length_append] at h; simpa using h)]
    simp
noncomputable def catK {β : Type} : List (Nat × Nat) → List Nat → (List Nat → β) → β
  | [], acc, c => c acc
  | p :: r, acc, c => catK r acc fun acc' => bytesK c p.1 p.2 acc'
theorem catK_ok {β : Type} : ∀ (ss : List ByteArray) (acc : List Nat) (c : List Nat → β), catK (ss.map fun s => (s.size, val s.data.toList)) acc c = c ((scat ss).map UInt8.toNat ++ acc)
  | [], acc, c => rfl
  | s :: ss, acc, c => by
    rw [List.map_cons, catK, catK_ok ss acc]
    rw [bytesK_ok c s.size s.data.toList _ (by simp)]
    rw [← List.append_assoc, ← List.map_append]
    rfl
def totK (l : List (Nat × Nat)) : Nat := l.foldr (fun p n => p.1 + n) 0
theorem totK_ok : ∀ (ss : List ByteArray), totK (ss.map fun s => (s.size, val s.data.toList)) = (scat ss).length
  | [] => rfl
  | s :: ss => by
    have ih := totK_ok ss
    unfold totK at *
    rw [List.map_cons, List.foldr_cons, ih]
    have : scat (s :: ss) = s.data.toList ++ scat ss := rfl
    rw [this, List.length_append]
    simp
def W0 : W8 := ⟨1779033703, 3144134277, 1013904242, 2773480762, 1359893119, 2600822924, 528734635, 1541459225⟩
/-- A word's bytes as a tree. -/
noncomputable def fB4 {β : Type} (x : Nat) (c : AV → β) : β :=
  fN (x / 16777216 % 256) fun p => fN (x / 65536 % 256) fun q => fN (x / 256 % 256) fun r => fN (x % 256) fun s => c (.node (.node (.int .u8 (.ofNat p)) (.int .u8 (.ofNat q))) (.node (.int .u8 (.ofNat r)) (.int .u8 (.ofNat s))))
def t4 (x : Nat) : AV := .node (.node (.int .u8 (.ofNat (x / 16777216 % 256))) (.int .u8 (.ofNat (x / 65536 % 256)))) (.node (.int .u8 (.ofNat (x / 256 % 256))) (.int .u8 (.ofNat (x % 256))))
theorem fB4_eq {β : Type} (x : Nat) (c : AV → β) : fB4 x c = c (t4 x) := by simp only [fB4, fN_eq, t4]
def t32 (v : W8) : AV := .node (.node (.node (t4 v.a) (t4 v.b)) (.node (t4 v.c) (t4 v.d))) (.node (.node (t4 v.e) (t4 v.f)) (.node (t4 v.g) (t4 v.h)))
noncomputable def outK {β : Type} (c : AV → β) (v : W8) : β :=
  fB4 v.a fun a => fB4 v.b fun b => fB4 v.c fun c' => fB4 v.d fun d => fB4 v.e fun e => fB4 v.f fun f => fB4 v.g fun g => fB4 v.h fun h =>
  c (.node (.node (.node a b) (.node c' d)) (.node (.node e f) (.node g h)))
theorem outK_eq {β : Type} (c : AV → β) (v : W8) : outK c v = c (t32 v) := by simp only [outK, fB4_eq, t32]
/-- The digest of texts. -/
noncomputable def shaK {β : Type} (l : List (Nat × Nat)) (c : AV → β) : β := fN (totK l) fun N => catK l (tailN N) fun L => blkK (outK c) (L.length / 64) L W0
theorem shaK_ok {β : Type} (ss : List ByteArray) (c : AV → β) : ∃ v, shaK (ss.map fun s => (s.size, val s.data.toList)) c = c (t32 v) ∧ shaD (scat ss) = dgr (w8l v) 8 := by
  have hl : ((scat ss).map UInt8.toNat ++ tailN (scat ss).length).length = 64 * (((scat ss).map UInt8.toNat ++ tailN (scat ss).length).length / 64) := by
    have := tailN_len (scat ss).length
    rw [List.length_append, List.length_map]; omega
  have hb : ∀ b ∈ (scat ss).map UInt8.toNat ++ tailN (scat ss).length, b < 256 := by
    intro b hb
    rcases List.mem_append.1 hb with hb | hb
    · obtain ⟨x, _, rfl⟩ := List.mem_map.1 hb
      exact UInt8.toNat_lt x
    · unfold tailN at hb
      rcases List.mem_cons.1 hb with rfl | hb
      · decide
      · rcases List.mem_append.1 hb with hb | hb
        · rw [(List.mem_replicate.1 hb).2]; decide
        · obtain ⟨i, _, rfl⟩ := List.mem_map.1 hb
          exact Nat.mod_lt _ (by decide)
  obtain ⟨v, h1, h2⟩ := blkK_ok (outK c) _ _ W0 hb hl
  refine ⟨v, ?_, ?_⟩
  · unfold shaK
    rw [fN_eq, totK_ok, catK_ok, h1, outK_eq]
  · have hu : un8 ((scat ss).map UInt8.toNat ++ tailN (scat ss).length) = scat ss ++ un8 (tailN (scat ss).length) := by
      unfold un8
      rw [List.map_append, List.map_map]
      congr 1
      conv => rhs; rw [← List.map_id (scat ss)]
      apply List.map_congr_left
      intro b _
      simp
    rw [hu] at h2
    have hk : (scat ss).length + (tailN (scat ss).length).length = 64 * (((scat ss).map UInt8.toNat ++ tailN (scat ss).length).length / 64) := by
      rw [List.length_append, List.length_map] at hl ⊢; exact hl
    rw [shaD_mixes (scat ss) hk, h2]
    rfl
/-- The table of the rounds. -/
noncomputable def tabL (t : AV) : List Nat → Nat → Bool
  | [], _ => true
  | k :: ks, i => (match cget 6 t i with | .int .u32 (.ofNat m) => Nat.beq m k | _ => false) && tabL t ks (i + 1)
theorem tabL_ok (t : AV) : ∀ (ks : List Nat) (i : Nat), tabL t ks i = true → ∀ j, j < ks.length → cget 6 t (i + j) = .int .u32 (.ofNat (rg ks j))
  | k :: ks, i, h, j, hj => by
    rw [tabL, Bool.and_eq_true] at h
    cases j with
    | zero =>
      have h1 := h.1
      split at h1
      · rename_i m hm
        rw [Nat.add_zero, hm, beqn_iff.1 h1]; rfl
      · cases h1
    | succ j =>
      have := tabL_ok t ks (i + 1) h.2 j (by simpa using hj)
      rw [show i + (j + 1) = i + 1 + j by omega, this]; rfl
noncomputable def strsK (d : Nat) (t : AV) : Nat → Nat → Option (List (Nat × Nat))
  | 0, _ => some []
  | k + 1, off => match cget d t off with
    | .str m x => match strsK d t k (off + 1) with
      | some l => some ((m, x) :: l)
      | none => none
    | _ => none
theorem strsK_ok {σ : Sg} {d : Nat} {t : AV} {cs : Array Value} : ∀ (k off : Nat) (l : List (Nat × Nat)), (∀ i, i < k → ∃ v, cs[off + i]? = some v ∧ Rel σ (cget d t (off + i)) v) → strsK d t k off = some l →
    ∃ ss : List ByteArray, ss.length = k ∧ l = ss.map (fun s => (s.size, val s.data.toList)) ∧ ∀ i, i < k → cs[off + i]? = some (.string (ssat ss i))
  | 0, off, l, _, h => by
    simp only [strsK, Option.some.injEq] at h
    exact ⟨[], rfl, by rw [← h]; rfl, fun i hi => absurd hi (Nat.not_lt_zero i)⟩
  | k + 1, off, l, hc, h => by
    unfold strsK at h
    split at h
    · rename_i m x hm
      split at h
      · rename_i l' hl
        simp only [Option.some.injEq] at h
        obtain ⟨v, h1, h2⟩ := hc 0 (Nat.succ_pos k)
        rw [Nat.add_zero] at h1 h2
        rw [hm] at h2
        cases h2 with
        | str s _ _ hn hx =>
        obtain ⟨ss, e1, e2, e3⟩ := strsK_ok k (off + 1) l' (fun i hi => by
          have := hc (i + 1) (by omega)
          rw [show off + (i + 1) = off + 1 + i by omega] at this; exact this) hl
        refine ⟨s :: ss, by rw [List.length_cons, e1], by rw [← h, e2, hn, hx]; rfl, fun i hi => ?_⟩
        cases i with
        | zero => exact h1
        | succ i => rw [show off + (i + 1) = off + 1 + i by omega]; exact e3 i (by omega)
      · cases h
    · cases h
noncomputable def sumX (fn : Nat) : KF := fun f args h nx =>
  bif Nat.beq f fn then match cget HD h 0 with
    | .cells _ n0 _ t0 => bif Nat.beq n0 64 && tabL t0 Kc 0 then match args with
      | [.nils] => shaK [] fun d => some (.agg 32 d, h, nx)
      | [.sl b off len lb 1] => match cget HD h b with
        | .cells _ n _ t => bif Nat.ble (off + len) n && Nat.ble len 1000000 then match strsK (lg n) t len off with
          | some l => shaK l fun d => some (.agg 32 d, h, nx)
          | none => none
          else none
        | _ => none
      | _ => none
      else none
    | _ => none
  else none
structure ShaSum (P : Program) (fn : Nat) : Prop where
  has : ∃ f c, P.funcs[fn]? = some f ∧ (f.name == "runtime.NumGoroutine") = false ∧ f.body = some c
  sum : ∀ (la : Option Addr) (cap : Nat) (ss : List ByteArray) (Rl : List (Nat × Obj)) (kt : Array Value) (t0 : TypeId) (fr0 : Nat × Nat) (w : World), InS Rl la ss.length (fun j => .string (ssat ss j)) → ss.length ≤ maxLen →
    Has w ((0, .cells kt t0 fr0) :: Rl) → KT kt → Calls P fn #[.slice la ss.length cap] w fun e w' => e = .returned (.agg (bv (shaD (scat ss)))) ∧ Ext [] w w'
theorem t32_get (v : W8) : ∀ i, i < 32 → cget 5 (t32 v) i = .int .u8 (Int.ofNat ((dgr (w8l v) 8).getD i 0).toNat)
  | 0, _ => rfl
  | 1, _ => rfl
  | 2, _ => rfl
  | 3, _ => rfl
  | 4, _ => rfl
  | 5, _ => rfl
  | 6, _ => rfl
  | 7, _ => rfl
  | 8, _ => rfl
  | 9, _ => rfl
  | 10, _ => rfl
  | 11, _ => rfl
  | 12, _ => rfl
  | 13, _ => rfl
  | 14, _ => rfl
  | 15, _ => rfl
  | 16, _ => rfl
  | 17, _ => rfl
  | 18, _ => rfl
  | 19, _ => rfl
  | 20, _ => rfl
  | 21, _ => rfl
  | 22, _ => rfl
  | 23, _ => rfl
  | 24, _ => rfl
  | 25, _ => rfl
  | 26, _ => rfl
  | 27, _ => rfl
  | 28, _ => rfl
  | 29, _ => rfl
  | 30, _ => rfl
  | 31, _ => rfl
  | n + 32, h => absurd h (by omega)
theorem t32_rel {σ : Sg} {v : W8} {l : List UInt8} (h : l = dgr (w8l v) 8) : Rel σ (.agg 32 (t32 v)) (.agg (bv l)) := by
  have hl : l.length = 32 := by rw [h]; exact dgr_len (Nat.le_refl 8)
  refine .agg 32 _ _ ((bv_size _).trans hl) (fun i u hu => all_bv _ _ (List.mem_of_getElem? (by rw [Array.getElem?_toList]; exact hu))) (fun i u hu => ?_)
  have hi : i < 32 := by
    have := (Array.getElem?_eq_some_iff.1 hu).1
    rw [bv_size, hl] at this; exact this
  rw [bv_get hl hi] at hu
  simp only [Option.some.injEq] at hu
  show Rel σ (cget 5 (t32 v) i) u
  rw [t32_get v i hi, ← hu, h]
  exact .int _ _
theorem sumX_ok {P : Program} {G fn : Nat} (S : ShaSum P fn) (hG : 0 < G) : XOk P G (sumX fn) := by
  intro f args h nx v h' nx' hh
  unfold sumX at hh
  cases hf : Nat.beq f fn with
  | false => simp [hf] at hh
  | true =>
    have := beqn_iff.1 hf
    subst this
    simp only [hf, cond_true] at hh
    intro σ w0 B w vs H hg hr
    unfold CalleeOk
    rw [if_pos (by omega), show 2 * f / 2 = f by omega]
    refine ⟨S.has, ?_⟩
    split at hh
    · rename_i ty0 n0 ro0 t0 hc0
      cases hz : (Nat.beq n0 64 && tabL t0 Kc 0) with
      | false => simp [hz] at hh
      | true =>
        simp only [hz, cond_true] at hh
        rw [Bool.and_eq_true] at hz
        have hn0 := beqn_iff.1 hz.1
        subst hn0
        obtain ⟨size0, hs0⟩ := hg 0 hG
        obtain ⟨cs0, fr0, tt0, g1, g2, ⟨_, g3, _⟩, g4, _⟩ := H.cells hs0 hc0
        have hK : KT cs0 := fun t ht => by
          obtain ⟨u, u1, u2, u3⟩ := g4 t ht
          have hq := tabL_ok t0 Kc 0 hz.2 t ht
          rw [Nat.zero_add] at hq u1
          rw [show lg 64 = 6 from rfl, hq] at u3
          cases u3
          exact u1
        have fin : ∀ (la : Option Addr) (cap : Nat) (ss : List ByteArray) (Rl : List (Nat × Obj)), InS Rl la ss.length (fun j => .string (ssat ss j)) → ss.length ≤ maxLen → Has w Rl → vs = [.slice la ss.length cap] →
            shaK (ss.map fun s => (s.size, val s.data.toList)) (fun d => some (AV.agg 32 d, h, nx)) = some (v, h', nx') →
            Calls P f vs.toArray w fun e w' => ∃ σ' v', SubX nx σ σ' ∧ Dk nx h h' ∧ nx ≤ nx' ∧ e = .returned v' ∧ Rel σ' v v' ∧ HS σ' h' nx' w0 B w' := by
          intro la cap ss Rl hI hn hR hv hk
          obtain ⟨x, k1, k2⟩ := shaK_ok ss (fun d => some (AV.agg 32 d, h, nx))
          rw [k1] at hk
          simp only [Option.some.injEq, Prod.mk.injEq] at hk
          obtain ⟨rfl, rfl, rfl⟩ := hk
          rw [hv]
          refine (S.sum la cap ss Rl cs0 tt0 fr0 w hI hn (fun e he => by
            rcases List.mem_cons.1 he with rfl | he
            · exact g1
            · exact hR e he) hK).mono ?_
          rintro e w' ⟨rfl, hE⟩
          exact ⟨σ, _, SubX.refl _ _, Dk.refl _ _, Nat.le_refl _, rfl, t32_rel k2, H.more (fun k hk => hE.block k hk (by simp)) hE.size hE.os hE.tape hE.output⟩
        obtain ⟨hrl, hri⟩ := hr
        split at hh
        · match vs, hrl with
          | [u], _ =>
            have := hri 0 _ u rfl rfl
            cases this
            exact fin none 0 [] [] (fun h => absurd h (by simp)) (by simp [maxLen]) (fun _ h => by cases h) rfl hh
        · rename_i b off len lb
          match vs, hrl with
          | [u], _ =>
            have hu := hri 0 _ u rfl rfl
            cases hu with
            | sl _ _ _ _ _ r base size o cap q1 q2 q3 q4 q5 =>
            split at hh
            · rename_i ty n ro t hc
              cases hq : (Nat.ble (off + len) n && Nat.ble len 1000000) with
              | false => simp [hq] at hh
              | true =>
                simp only [hq, cond_true] at hh
                rw [Bool.and_eq_true] at hq
                have hle := ble_iff.1 hq.1
                have hle2 := ble_iff.1 hq.2
                obtain ⟨cs, fr, tt, p1, p2, ⟨rfl, p3, _⟩, p4, _⟩ := H.cells q1 hc
                split at hh
                · rename_i l hl
                  obtain ⟨ss, e1, e2, e3⟩ := strsK_ok (σ := σ) (cs := cs) len off l (fun i hi => by
                    obtain ⟨u, u1, _, u3⟩ := p4 (off + i) (by omega)
                    exact ⟨u, by rw [Nat.zero_add] at u1; exact u1, u3⟩) hl
                  subst e2
                  refine fin (some ⟨r, o, none⟩) cap ss [(r, .cells cs tt fr)] (fun h0 => ⟨r, o, cs, tt, fr, rfl, List.mem_singleton.2 rfl, fun j hj => ?_⟩) (by rw [e1]; unfold maxLen; omega) (fun e he => by rw [List.mem_singleton.1 he]; exact p1) (by rw [e1]) hh
                  have ho := q4 (by omega)
                  rw [ho, Nat.zero_add]
                  exact e3 j (by omega)
                · cases hh
            · cases hh
        · cases hh
    · cases hh
/-- One intrinsic, else another one. -/
noncomputable def orX (X Y : KF) : KF := fun f args h nx => match X f args h nx with
  | some r => some r
  | none => Y f args h nx
theorem orX_ok {P : Program} {G : Nat} {X Y : KF} (hX : XOk P G X) (hY : XOk P G Y) : XOk P G (orX X Y) := by
  intro f args h nx v h' nx' hh
  unfold orX at hh
  split at hh
  · rename_i r hr
    simp only [Option.some.injEq] at hh
    exact hX f args h nx v h' nx' (hh ▸ hr)
  · exact hY f args h nx v h' nx' hh
end I
theorem shaSumI : I.ShaSum Tryz.prog 21 := ⟨⟨_, _, Tryz.func21, rfl, rfl⟩, fun la cap ss Rl kt t0 fr0 w hI hn hR hK => shaSum la cap ss Rl w hI hn hR hK⟩
end Go.Proofs.YtdjpokckamlccaaGreatDoor
namespace Go.Proofs.YtdjpokckamlccaaGreatDoor
def roundsL : List Int := [1116352408, 1899447441, 3049323471, 3921009573, 961987163, 1508970993, 2453635748, 2870763221, 3624381080, 310598401, 607225278, 1426881987, 1925078388, 2162078206, 2614888103, 3248222580, 3835390401, 4022224774, 264347078, 604807628, 770255983, 1249150122, 1555081692, 1996064986, 2554220882, 2821834349, 2952996808, 3210313671, 3336571891, 3584528711, 113926993, 338241895, 666307205, 773529912, 1294757372, 1396182291, 1695183700, 1986661051, 2177026350, 2456956037, 2730485921, 2820302411, 3259730800, 3345764771, 3516065817, 3600352804, 4094571909, 275423344, 430227734, 506948616, 659060556, 883997877, 958139571, 1322822218, 1537002063, 1747873779, 1955562222, 2024104815, 2227730452, 2361852424, 2428436474, 2756734187, 3204031479, 3329325298]
noncomputable def Xb : I.KF := I.orI (I.withX 155) (I.orI (I.withX 173) (I.orI (I.byteX 85) (I.orI (I.rowX 161 .u32 4) (I.orX (I.sortXS 66 125 9) (I.orX (I.sumX 21) (I.orI (I.repX 174) (I.orI (I.sortX 142 198 3) (I.orI (I.sortX 142 200 3) (I.sortX 142 325 3)))))))))
theorem xb_ok : I.XOk Tryz.prog 2 Xb := I.orI_ok (I.withX_ok withOk) (I.orI_ok (I.withX_ok rawOk) (I.orI_ok (I.byteX_ok byteOk) (I.orI_ok (I.rowX_ok fourOk) (I.orX_ok (I.sortXS_ok L.sortedKeys67) (I.orX_ok (I.sumX_ok shaSumI (by decide)) (I.orI_ok (I.repX_ok repeatOk) (I.orI_ok (I.sortX_ok L.sortedKeys143) (I.orI_ok (I.sortX_ok L.sortedKeys145) (I.sortX_ok L.sortedKeys304)))))))))
end Go.Proofs.YtdjpokckamlccaaGreatDoor
