/- The rotation of 32 bits, by the numbers that occur. -/
import Derived.Test.YtphnkangpboplaaDoorRows
import Derived.Test.YtphnkangpboplaaDoorK11
namespace Go.Proofs.YtphnkangpboplaaDoor
open K
set_option linter.unusedVariables false

theorem le_pow {b n : Nat} (h : n < 2 ^ b) : (n : Int) ≤ ((2 ^ b - 1 : Nat) : Int) := by omega
theorem tn_lt {x b : Nat} (h : x < 2 ^ b) : ((x : Int)).toNat < 2 ^ b := by rw [Int.toNat_natCast]; exact h
/-- A rotation: a = 2 ^ s, b = 2 ^ (32 - s). -/
def rotl (x a b : Nat) : Nat := (x * a % 4294967296) ||| (x / b)
theorem rotl_lt {x a b : Nat} (h : x < 2 ^ 32) : rotl x a b < 2 ^ 32 :=
  Nat.or_lt_two_pow (Nat.mod_lt _ (by decide)) (Nat.lt_of_le_of_lt (Nat.div_le_self _ _) h)

set_option maxRecDepth 100000 in
theorem rot25 (x : Nat) (w : World) (hx : x < 2 ^ 32) :
    Calls Tryd.prog 36 #[.int .u32 (x : Int), .int .i64 (-7)] w fun e w' => e = .returned (.int .u32 (rotl x 33554432 128 : Int)) ∧ Ext [] w w' := by
  refine enter (vs := [.int .u32 (x : Int), .int .i64 (-7)]) [] [] [] Tryd.func36 rfl (by kernel_rfl) (HP.start w) ?_
  refine Cfg.reg rfl [0, 1] [] (Γ' := [(0, [], .int .u32 (x : Int)), (1, [], .int .i64 (-7))]) (nd := (fun _ => [])) (fun _ => by kernel_rfl) trivial ?_
  refine Cfg.reg rfl [0, 5] [] (Γ' := [(5, [], .int .u64 25), (0, [], .int .u32 (x : Int))]) (nd := (fun _ => [((0 ≤ (18446744073709551609 : Int) ∧ (18446744073709551609 : Int) ≤ 18446744073709551615) ∧ 0 ≤ (31 : Int) ∧ (31 : Int) ≤ 18446744073709551615)])) (fun _ => by kernel_rfl) ⟨(by omega), trivial⟩ ?_
  refine Cfg.reg rfl [4] [] (Γ' := [(4, [], .int .u32 ((((((x : Int) * 33554432) % 4294967296)).toNat ||| (((x : Int) / 128)).toNat : Nat) : Int))]) (nd := (fun _ => [(0 ≤ (25 : Int) ∧ 25 ≤ 32), (0 ≤ (7 : Int) ∧ 7 ≤ 32), ((0 ≤ (((x : Int) * 33554432) % 4294967296) ∧ (((x : Int) * 33554432) % 4294967296) ≤ 4294967295) ∧ 0 ≤ ((x : Int) / 128) ∧ ((x : Int) / 128) ≤ 4294967295)])) (fun _ => by kernel_rfl) ⟨(by omega), (by omega), (by omega), trivial⟩ ?_
  refine Cfg.ret rfl (rs := [.tmp 4]) rfl [.int .u32 ((((((x : Int) * 33554432) % 4294967296)).toNat ||| (((x : Int) / 128)).toNat : Nat) : Int)] ⟨by kernel_rfl, trivial⟩ (fun w1 hp => ?_)
  refine ⟨?_, hp.ext⟩
  unfold rotl
  rw [show x * 33554432 % 4294967296 = ((x : Int) * 33554432 % 4294967296).toNat by omega, show x / 128 = ((x : Int) / 128).toNat by omega]
  rfl

set_option maxRecDepth 100000 in
theorem rot14 (x : Nat) (w : World) (hx : x < 2 ^ 32) :
    Calls Tryd.prog 36 #[.int .u32 (x : Int), .int .i64 (-18)] w fun e w' => e = .returned (.int .u32 (rotl x 16384 262144 : Int)) ∧ Ext [] w w' := by
  refine enter (vs := [.int .u32 (x : Int), .int .i64 (-18)]) [] [] [] Tryd.func36 rfl (by kernel_rfl) (HP.start w) ?_
  refine Cfg.reg rfl [0, 1] [] (Γ' := [(0, [], .int .u32 (x : Int)), (1, [], .int .i64 (-18))]) (nd := (fun _ => [])) (fun _ => by kernel_rfl) trivial ?_
  refine Cfg.reg rfl [0, 5] [] (Γ' := [(5, [], .int .u64 14), (0, [], .int .u32 (x : Int))]) (nd := (fun _ => [((0 ≤ (18446744073709551598 : Int) ∧ (18446744073709551598 : Int) ≤ 18446744073709551615) ∧ 0 ≤ (31 : Int) ∧ (31 : Int) ≤ 18446744073709551615)])) (fun _ => by kernel_rfl) ⟨(by omega), trivial⟩ ?_
  refine Cfg.reg rfl [4] [] (Γ' := [(4, [], .int .u32 ((((((x : Int) * 16384) % 4294967296)).toNat ||| (((x : Int) / 262144)).toNat : Nat) : Int))]) (nd := (fun _ => [(0 ≤ (14 : Int) ∧ 14 ≤ 32), (0 ≤ (18 : Int) ∧ 18 ≤ 32), ((0 ≤ (((x : Int) * 16384) % 4294967296) ∧ (((x : Int) * 16384) % 4294967296) ≤ 4294967295) ∧ 0 ≤ ((x : Int) / 262144) ∧ ((x : Int) / 262144) ≤ 4294967295)])) (fun _ => by kernel_rfl) ⟨(by omega), (by omega), (by omega), trivial⟩ ?_
  refine Cfg.ret rfl (rs := [.tmp 4]) rfl [.int .u32 ((((((x : Int) * 16384) % 4294967296)).toNat ||| (((x : Int) / 262144)).toNat : Nat) : Int)] ⟨by kernel_rfl, trivial⟩ (fun w1 hp => ?_)
  refine ⟨?_, hp.ext⟩
  unfold rotl
  rw [show x * 16384 % 4294967296 = ((x : Int) * 16384 % 4294967296).toNat by omega, show x / 262144 = ((x : Int) / 262144).toNat by omega]
  rfl

set_option maxRecDepth 100000 in
theorem rot15 (x : Nat) (w : World) (hx : x < 2 ^ 32) :
    Calls Tryd.prog 36 #[.int .u32 (x : Int), .int .i64 (-17)] w fun e w' => e = .returned (.int .u32 (rotl x 32768 131072 : Int)) ∧ Ext [] w w' := by
  refine enter (vs := [.int .u32 (x : Int), .int .i64 (-17)]) [] [] [] Tryd.func36 rfl (by kernel_rfl) (HP.start w) ?_
  refine Cfg.reg rfl [0, 1] [] (Γ' := [(0, [], .int .u32 (x : Int)), (1, [], .int .i64 (-17))]) (nd := (fun _ => [])) (fun _ => by kernel_rfl) trivial ?_
  refine Cfg.reg rfl [0, 5] [] (Γ' := [(5, [], .int .u64 15), (0, [], .int .u32 (x : Int))]) (nd := (fun _ => [((0 ≤ (18446744073709551599 : Int) ∧ (18446744073709551599 : Int) ≤ 18446744073709551615) ∧ 0 ≤ (31 : Int) ∧ (31 : Int) ≤ 18446744073709551615)])) (fun _ => by kernel_rfl) ⟨(by omega), trivial⟩ ?_
  refine Cfg.reg rfl [4] [] (Γ' := [(4, [], .int .u32 ((((((x : Int) * 32768) % 4294967296)).toNat ||| (((x : Int) / 131072)).toNat : Nat) : Int))]) (nd := (fun _ => [(0 ≤ (15 : Int) ∧ 15 ≤ 32), (0 ≤ (17 : Int) ∧ 17 ≤ 32), ((0 ≤ (((x : Int) * 32768) % 4294967296) ∧ (((x : Int) * 32768) % 4294967296) ≤ 4294967295) ∧ 0 ≤ ((x : Int) / 131072) ∧ ((x : Int) / 131072) ≤ 4294967295)])) (fun _ => by kernel_rfl) ⟨(by omega), (by omega), (by omega), trivial⟩ ?_
  refine Cfg.ret rfl (rs := [.tmp 4]) rfl [.int .u32 ((((((x : Int) * 32768) % 4294967296)).toNat ||| (((x : Int) / 131072)).toNat : Nat) : Int)] ⟨by kernel_rfl, trivial⟩ (fun w1 hp => ?_)
  refine ⟨?_, hp.ext⟩
  unfold rotl
  rw [show x * 32768 % 4294967296 = ((x : Int) * 32768 % 4294967296).toNat by omega, show x / 131072 = ((x : Int) / 131072).toNat by omega]
  rfl

set_option maxRecDepth 100000 in
theorem rot13 (x : Nat) (w : World) (hx : x < 2 ^ 32) :
    Calls Tryd.prog 36 #[.int .u32 (x : Int), .int .i64 (-19)] w fun e w' => e = .returned (.int .u32 (rotl x 8192 524288 : Int)) ∧ Ext [] w w' := by
  refine enter (vs := [.int .u32 (x : Int), .int .i64 (-19)]) [] [] [] Tryd.func36 rfl (by kernel_rfl) (HP.start w) ?_
  refine Cfg.reg rfl [0, 1] [] (Γ' := [(0, [], .int .u32 (x : Int)), (1, [], .int .i64 (-19))]) (nd := (fun _ => [])) (fun _ => by kernel_rfl) trivial ?_
  refine Cfg.reg rfl [0, 5] [] (Γ' := [(5, [], .int .u64 13), (0, [], .int .u32 (x : Int))]) (nd := (fun _ => [((0 ≤ (18446744073709551597 : Int) ∧ (18446744073709551597 : Int) ≤ 18446744073709551615) ∧ 0 ≤ (31 : Int) ∧ (31 : Int) ≤ 18446744073709551615)])) (fun _ => by kernel_rfl) ⟨(by omega), trivial⟩ ?_
  refine Cfg.reg rfl [4] [] (Γ' := [(4, [], .int .u32 ((((((x : Int) * 8192) % 4294967296)).toNat ||| (((x : Int) / 524288)).toNat : Nat) : Int))]) (nd := (fun _ => [(0 ≤ (13 : Int) ∧ 13 ≤ 32), (0 ≤ (19 : Int) ∧ 19 ≤ 32), ((0 ≤ (((x : Int) * 8192) % 4294967296) ∧ (((x : Int) * 8192) % 4294967296) ≤ 4294967295) ∧ 0 ≤ ((x : Int) / 524288) ∧ ((x : Int) / 524288) ≤ 4294967295)])) (fun _ => by kernel_rfl) ⟨(by omega), (by omega), (by omega), trivial⟩ ?_
  refine Cfg.ret rfl (rs := [.tmp 4]) rfl [.int .u32 ((((((x : Int) * 8192) % 4294967296)).toNat ||| (((x : Int) / 524288)).toNat : Nat) : Int)] ⟨by kernel_rfl, trivial⟩ (fun w1 hp => ?_)
  refine ⟨?_, hp.ext⟩
  unfold rotl
  rw [show x * 8192 % 4294967296 = ((x : Int) * 8192 % 4294967296).toNat by omega, show x / 524288 = ((x : Int) / 524288).toNat by omega]
  rfl

set_option maxRecDepth 100000 in
theorem rot26 (x : Nat) (w : World) (hx : x < 2 ^ 32) :
    Calls Tryd.prog 36 #[.int .u32 (x : Int), .int .i64 (-6)] w fun e w' => e = .returned (.int .u32 (rotl x 67108864 64 : Int)) ∧ Ext [] w w' := by
  refine enter (vs := [.int .u32 (x : Int), .int .i64 (-6)]) [] [] [] Tryd.func36 rfl (by kernel_rfl) (HP.start w) ?_
  refine Cfg.reg rfl [0, 1] [] (Γ' := [(0, [], .int .u32 (x : Int)), (1, [], .int .i64 (-6))]) (nd := (fun _ => [])) (fun _ => by kernel_rfl) trivial ?_
  refine Cfg.reg rfl [0, 5] [] (Γ' := [(5, [], .int .u64 26), (0, [], .int .u32 (x : Int))]) (nd := (fun _ => [((0 ≤ (18446744073709551610 : Int) ∧ (18446744073709551610 : Int) ≤ 18446744073709551615) ∧ 0 ≤ (31 : Int) ∧ (31 : Int) ≤ 18446744073709551615)])) (fun _ => by kernel_rfl) ⟨(by omega), trivial⟩ ?_
  refine Cfg.reg rfl [4] [] (Γ' := [(4, [], .int .u32 ((((((x : Int) * 67108864) % 4294967296)).toNat ||| (((x : Int) / 64)).toNat : Nat) : Int))]) (nd := (fun _ => [(0 ≤ (26 : Int) ∧ 26 ≤ 32), (0 ≤ (6 : Int) ∧ 6 ≤ 32), ((0 ≤ (((x : Int) * 67108864) % 4294967296) ∧ (((x : Int) * 67108864) % 4294967296) ≤ 4294967295) ∧ 0 ≤ ((x : Int) / 64) ∧ ((x : Int) / 64) ≤ 4294967295)])) (fun _ => by kernel_rfl) ⟨(by omega), (by omega), (by omega), trivial⟩ ?_
  refine Cfg.ret rfl (rs := [.tmp 4]) rfl [.int .u32 ((((((x : Int) * 67108864) % 4294967296)).toNat ||| (((x : Int) / 64)).toNat : Nat) : Int)] ⟨by kernel_rfl, trivial⟩ (fun w1 hp => ?_)
  refine ⟨?_, hp.ext⟩
  unfold rotl
  rw [show x * 67108864 % 4294967296 = ((x : Int) * 67108864 % 4294967296).toNat by omega, show x / 64 = ((x : Int) / 64).toNat by omega]
  rfl

set_option maxRecDepth 100000 in
theorem rot21 (x : Nat) (w : World) (hx : x < 2 ^ 32) :
    Calls Tryd.prog 36 #[.int .u32 (x : Int), .int .i64 (-11)] w fun e w' => e = .returned (.int .u32 (rotl x 2097152 2048 : Int)) ∧ Ext [] w w' := by
  refine enter (vs := [.int .u32 (x : Int), .int .i64 (-11)]) [] [] [] Tryd.func36 rfl (by kernel_rfl) (HP.start w) ?_
  refine Cfg.reg rfl [0, 1] [] (Γ' := [(0, [], .int .u32 (x : Int)), (1, [], .int .i64 (-11))]) (nd := (fun _ => [])) (fun _ => by kernel_rfl) trivial ?_
  refine Cfg.reg rfl [0, 5] [] (Γ' := [(5, [], .int .u64 21), (0, [], .int .u32 (x : Int))]) (nd := (fun _ => [((0 ≤ (18446744073709551605 : Int) ∧ (18446744073709551605 : Int) ≤ 18446744073709551615) ∧ 0 ≤ (31 : Int) ∧ (31 : Int) ≤ 18446744073709551615)])) (fun _ => by kernel_rfl) ⟨(by omega), trivial⟩ ?_
  refine Cfg.reg rfl [4] [] (Γ' := [(4, [], .int .u32 ((((((x : Int) * 2097152) % 4294967296)).toNat ||| (((x : Int) / 2048)).toNat : Nat) : Int))]) (nd := (fun _ => [(0 ≤ (21 : Int) ∧ 21 ≤ 32), (0 ≤ (11 : Int) ∧ 11 ≤ 32), ((0 ≤ (((x : Int) * 2097152) % 4294967296) ∧ (((x : Int) * 2097152) % 4294967296) ≤ 4294967295) ∧ 0 ≤ ((x : Int) / 2048) ∧ ((x : Int) / 2048) ≤ 4294967295)])) (fun _ => by kernel_rfl) ⟨(by omega), (by omega), (by omega), trivial⟩ ?_
  refine Cfg.ret rfl (rs := [.tmp 4]) rfl [.int .u32 ((((((x : Int) * 2097152) % 4294967296)).toNat ||| (((x : Int) / 2048)).toNat : Nat) : Int)] ⟨by kernel_rfl, trivial⟩ (fun w1 hp => ?_)
  refine ⟨?_, hp.ext⟩
  unfold rotl
  rw [show x * 2097152 % 4294967296 = ((x : Int) * 2097152 % 4294967296).toNat by omega, show x / 2048 = ((x : Int) / 2048).toNat by omega]
  rfl

set_option maxRecDepth 100000 in
theorem rot7 (x : Nat) (w : World) (hx : x < 2 ^ 32) :
    Calls Tryd.prog 36 #[.int .u32 (x : Int), .int .i64 (-25)] w fun e w' => e = .returned (.int .u32 (rotl x 128 33554432 : Int)) ∧ Ext [] w w' := by
  refine enter (vs := [.int .u32 (x : Int), .int .i64 (-25)]) [] [] [] Tryd.func36 rfl (by kernel_rfl) (HP.start w) ?_
  refine Cfg.reg rfl [0, 1] [] (Γ' := [(0, [], .int .u32 (x : Int)), (1, [], .int .i64 (-25))]) (nd := (fun _ => [])) (fun _ => by kernel_rfl) trivial ?_
  refine Cfg.reg rfl [0, 5] [] (Γ' := [(5, [], .int .u64 7), (0, [], .int .u32 (x : Int))]) (nd := (fun _ => [((0 ≤ (18446744073709551591 : Int) ∧ (18446744073709551591 : Int) ≤ 18446744073709551615) ∧ 0 ≤ (31 : Int) ∧ (31 : Int) ≤ 18446744073709551615)])) (fun _ => by kernel_rfl) ⟨(by omega), trivial⟩ ?_
  refine Cfg.reg rfl [4] [] (Γ' := [(4, [], .int .u32 ((((((x : Int) * 128) % 4294967296)).toNat ||| (((x : Int) / 33554432)).toNat : Nat) : Int))]) (nd := (fun _ => [(0 ≤ (7 : Int) ∧ 7 ≤ 32), (0 ≤ (25 : Int) ∧ 25 ≤ 32), ((0 ≤ (((x : Int) * 128) % 4294967296) ∧ (((x : Int) * 128) % 4294967296) ≤ 4294967295) ∧ 0 ≤ ((x : Int) / 33554432) ∧ ((x : Int) / 33554432) ≤ 4294967295)])) (fun _ => by kernel_rfl) ⟨(by omega), (by omega), (by omega), trivial⟩ ?_
  refine Cfg.ret rfl (rs := [.tmp 4]) rfl [.int .u32 ((((((x : Int) * 128) % 4294967296)).toNat ||| (((x : Int) / 33554432)).toNat : Nat) : Int)] ⟨by kernel_rfl, trivial⟩ (fun w1 hp => ?_)
  refine ⟨?_, hp.ext⟩
  unfold rotl
  rw [show x * 128 % 4294967296 = ((x : Int) * 128 % 4294967296).toNat by omega, show x / 33554432 = ((x : Int) / 33554432).toNat by omega]
  rfl

set_option maxRecDepth 100000 in
theorem rot30 (x : Nat) (w : World) (hx : x < 2 ^ 32) :
    Calls Tryd.prog 36 #[.int .u32 (x : Int), .int .i64 (-2)] w fun e w' => e = .returned (.int .u32 (rotl x 1073741824 4 : Int)) ∧ Ext [] w w' := by
  refine enter (vs := [.int .u32 (x : Int), .int .i64 (-2)]) [] [] [] Tryd.func36 rfl (by kernel_rfl) (HP.start w) ?_
  refine Cfg.reg rfl [0, 1] [] (Γ' := [(0, [], .int .u32 (x : Int)), (1, [], .int .i64 (-2))]) (nd := (fun _ => [])) (fun _ => by kernel_rfl) trivial ?_
  refine Cfg.reg rfl [0, 5] [] (Γ' := [(5, [], .int .u64 30), (0, [], .int .u32 (x : Int))]) (nd := (fun _ => [((0 ≤ (18446744073709551614 : Int) ∧ (18446744073709551614 : Int) ≤ 18446744073709551615) ∧ 0 ≤ (31 : Int) ∧ (31 : Int) ≤ 18446744073709551615)])) (fun _ => by kernel_rfl) ⟨(by omega), trivial⟩ ?_
  refine Cfg.reg rfl [4] [] (Γ' := [(4, [], .int .u32 ((((((x : Int) * 1073741824) % 4294967296)).toNat ||| (((x : Int) / 4)).toNat : Nat) : Int))]) (nd := (fun _ => [(0 ≤ (30 : Int) ∧ 30 ≤ 32), (0 ≤ (2 : Int) ∧ 2 ≤ 32), ((0 ≤ (((x : Int) * 1073741824) % 4294967296) ∧ (((x : Int) * 1073741824) % 4294967296) ≤ 4294967295) ∧ 0 ≤ ((x : Int) / 4) ∧ ((x : Int) / 4) ≤ 4294967295)])) (fun _ => by kernel_rfl) ⟨(by omega), (by omega), (by omega), trivial⟩ ?_
  refine Cfg.ret rfl (rs := [.tmp 4]) rfl [.int .u32 ((((((x : Int) * 1073741824) % 4294967296)).toNat ||| (((x : Int) / 4)).toNat : Nat) : Int)] ⟨by kernel_rfl, trivial⟩ (fun w1 hp => ?_)
  refine ⟨?_, hp.ext⟩
  unfold rotl
  rw [show x * 1073741824 % 4294967296 = ((x : Int) * 1073741824 % 4294967296).toNat by omega, show x / 4 = ((x : Int) / 4).toNat by omega]
  rfl

set_option maxRecDepth 100000 in
theorem rot19 (x : Nat) (w : World) (hx : x < 2 ^ 32) :
    Calls Tryd.prog 36 #[.int .u32 (x : Int), .int .i64 (-13)] w fun e w' => e = .returned (.int .u32 (rotl x 524288 8192 : Int)) ∧ Ext [] w w' := by
  refine enter (vs := [.int .u32 (x : Int), .int .i64 (-13)]) [] [] [] Tryd.func36 rfl (by kernel_rfl) (HP.start w) ?_
  refine Cfg.reg rfl [0, 1] [] (Γ' := [(0, [], .int .u32 (x : Int)), (1, [], .int .i64 (-13))]) (nd := (fun _ => [])) (fun _ => by kernel_rfl) trivial ?_
  refine Cfg.reg rfl [0, 5] [] (Γ' := [(5, [], .int .u64 19), (0, [], .int .u32 (x : Int))]) (nd := (fun _ => [((0 ≤ (18446744073709551603 : Int) ∧ (18446744073709551603 : Int) ≤ 18446744073709551615) ∧ 0 ≤ (31 : Int) ∧ (31 : Int) ≤ 18446744073709551615)])) (fun _ => by kernel_rfl) ⟨(by omega), trivial⟩ ?_
  refine Cfg.reg rfl [4] [] (Γ' := [(4, [], .int .u32 ((((((x : Int) * 524288) % 4294967296)).toNat ||| (((x : Int) / 8192)).toNat : Nat) : Int))]) (nd := (fun _ => [(0 ≤ (19 : Int) ∧ 19 ≤ 32), (0 ≤ (13 : Int) ∧ 13 ≤ 32), ((0 ≤ (((x : Int) * 524288) % 4294967296) ∧ (((x : Int) * 524288) % 4294967296) ≤ 4294967295) ∧ 0 ≤ ((x : Int) / 8192) ∧ ((x : Int) / 8192) ≤ 4294967295)])) (fun _ => by kernel_rfl) ⟨(by omega), (by omega), (by omega), trivial⟩ ?_
  refine Cfg.ret rfl (rs := [.tmp 4]) rfl [.int .u32 ((((((x : Int) * 524288) % 4294967296)).toNat ||| (((x : Int) / 8192)).toNat : Nat) : Int)] ⟨by kernel_rfl, trivial⟩ (fun w1 hp => ?_)
  refine ⟨?_, hp.ext⟩
  unfold rotl
  rw [show x * 524288 % 4294967296 = ((x : Int) * 524288 % 4294967296).toNat by omega, show x / 8192 = ((x : Int) / 8192).toNat by omega]
  rfl

set_option maxRecDepth 100000 in
theorem rot10 (x : Nat) (w : World) (hx : x < 2 ^ 32) :
    Calls Tryd.prog 36 #[.int .u32 (x : Int), .int .i64 (-22)] w fun e w' => e = .returned (.int .u32 (rotl x 1024 4194304 : Int)) ∧ Ext [] w w' := by
  refine enter (vs := [.int .u32 (x : Int), .int .i64 (-22)]) [] [] [] Tryd.func36 rfl (by kernel_rfl) (HP.start w) ?_
  refine Cfg.reg rfl [0, 1] [] (Γ' := [(0, [], .int .u32 (x : Int)), (1, [], .int .i64 (-22))]) (nd := (fun _ => [])) (fun _ => by kernel_rfl) trivial ?_
  refine Cfg.reg rfl [0, 5] [] (Γ' := [(5, [], .int .u64 10), (0, [], .int .u32 (x : Int))]) (nd := (fun _ => [((0 ≤ (18446744073709551594 : Int) ∧ (18446744073709551594 : Int) ≤ 18446744073709551615) ∧ 0 ≤ (31 : Int) ∧ (31 : Int) ≤ 18446744073709551615)])) (fun _ => by kernel_rfl) ⟨(by omega), trivial⟩ ?_
  refine Cfg.reg rfl [4] [] (Γ' := [(4, [], .int .u32 ((((((x : Int) * 1024) % 4294967296)).toNat ||| (((x : Int) / 4194304)).toNat : Nat) : Int))]) (nd := (fun _ => [(0 ≤ (10 : Int) ∧ 10 ≤ 32), (0 ≤ (22 : Int) ∧ 22 ≤ 32), ((0 ≤ (((x : Int) * 1024) % 4294967296) ∧ (((x : Int) * 1024) % 4294967296) ≤ 4294967295) ∧ 0 ≤ ((x : Int) / 4194304) ∧ ((x : Int) / 4194304) ≤ 4294967295)])) (fun _ => by kernel_rfl) ⟨(by omega), (by omega), (by omega), trivial⟩ ?_
  refine Cfg.ret rfl (rs := [.tmp 4]) rfl [.int .u32 ((((((x : Int) * 1024) % 4294967296)).toNat ||| (((x : Int) / 4194304)).toNat : Nat) : Int)] ⟨by kernel_rfl, trivial⟩ (fun w1 hp => ?_)
  refine ⟨?_, hp.ext⟩
  unfold rotl
  rw [show x * 1024 % 4294967296 = ((x : Int) * 1024 % 4294967296).toNat by omega, show x / 4194304 = ((x : Int) / 4194304).toNat by omega]
  rfl

end Go.Proofs.YtphnkangpboplaaDoor
