/- Texts on which the proof of this claim stands: Sha6, I1, I2, I3. -/
import Derived.Test.YtojefiolcedigaaGreatDoorRows
import Derived.Test.YtojefiolcedigaaGreatDoorP1
import Derived.WalkKit
import Derived.MapKept
namespace Go.Proofs.YtojefiolcedigaaGreatDoor
open K
set_option linter.unusedVariables false
theorem le_pow {b n : Nat} (h : n < 2 ^ b) : (n : Int) ≤ ((2 ^ b - 1 : Nat) : Int) := by omega
theorem tn_lt {x b : Nat} (h : x < 2 ^ b) : ((x : Int)).toNat < 2 ^ b := by rw [Int.toNat_natCast]; exact h
def rotl (x a b : Nat) : Nat := (x * a % 4294967296) ||| (x / b)
theorem rotl_lt {x a b : Nat} (h : x < 2 ^ 32) : rotl x a b < 2 ^ 32 :=
 Nat.or_lt_two_pow (Nat.mod_lt _ (by decide)) (Nat.lt_of_le_of_lt (Nat.div_le_self _ _) h)
set_option maxRecDepth 100000 in
theorem rot25 (x : Nat) (w : World) (hx : x < 2 ^ 32) :
  Calls Tryz.prog 128 #[.int .u32 (x : Int),.int .i64 (-7)] w fun e w' => e = .returned (.int .u32 (rotl x 33554432 128 : Int)) ∧ Ext [] w w' := by
 refine enter (vs := [.int .u32 (x : Int),.int .i64 (-7)]) [] [] [] Tryz.func128 rfl (by kernel_rfl) (HP.start w) ?_
 refine Cfg.reg rfl [0,1] [] (Γ' := [(0,[],.int .u32 (x : Int)),(1,[],.int .i64 (-7))]) (nd := (fun _ => [])) (fun _ => by kernel_rfl) trivial ?_
 refine Cfg.reg rfl [0,5] [] (Γ' := [(5,[],.int .u64 25),(0,[],.int .u32 (x : Int))]) (nd := (fun _ => [((0 ≤ (18446744073709551609 : Int) ∧ (18446744073709551609 : Int) ≤ 18446744073709551615) ∧ 0 ≤ (31 : Int) ∧ (31 : Int) ≤ 18446744073709551615)])) (fun _ => by kernel_rfl) ⟨(by omega),trivial⟩ ?_
 refine Cfg.reg rfl [4] [] (Γ' := [(4,[],.int .u32 ((((((x : Int) * 33554432) % 4294967296)).toNat ||| (((x : Int) / 128)).toNat : Nat) : Int))]) (nd := (fun _ => [(0 ≤ (25 : Int) ∧ 25 ≤ 32),(0 ≤ (7 : Int) ∧ 7 ≤ 32),((0 ≤ (((x : Int) * 33554432) % 4294967296) ∧ (((x : Int) * 33554432) % 4294967296) ≤ 4294967295) ∧ 0 ≤ ((x : Int) / 128) ∧ ((x : Int) / 128) ≤ 4294967295)])) (fun _ => by kernel_rfl) ⟨(by omega),(by omega),(by omega),trivial⟩ ?_
 refine Cfg.ret rfl (rs := [.tmp 4]) rfl [.int .u32 ((((((x : Int) * 33554432) % 4294967296)).toNat ||| (((x : Int) / 128)).toNat : Nat) : Int)] ⟨by kernel_rfl,trivial⟩ (fun w1 hp => ?_)
 refine ⟨?_,hp.ext⟩
 unfold rotl
 rw [show x * 33554432 % 4294967296 = ((x : Int) * 33554432 % 4294967296).toNat by omega,show x / 128 = ((x : Int) / 128).toNat by omega]
 rfl
set_option maxRecDepth 100000 in
theorem rot14 (x : Nat) (w : World) (hx : x < 2 ^ 32) :
  Calls Tryz.prog 128 #[.int .u32 (x : Int),.int .i64 (-18)] w fun e w' => e = .returned (.int .u32 (rotl x 16384 262144 : Int)) ∧ Ext [] w w' := by
 refine enter (vs := [.int .u32 (x : Int),.int .i64 (-18)]) [] [] [] Tryz.func128 rfl (by kernel_rfl) (HP.start w) ?_
 refine Cfg.reg rfl [0,1] [] (Γ' := [(0,[],.int .u32 (x : Int)),(1,[],.int .i64 (-18))]) (nd := (fun _ => [])) (fun _ => by kernel_rfl) trivial ?_
 refine Cfg.reg rfl [0,5] [] (Γ' := [(5,[],.int .u64 14),(0,[],.int .u32 (x : Int))]) (nd := (fun _ => [((0 ≤ (18446744073709551598 : Int) ∧ (18446744073709551598 : Int) ≤ 18446744073709551615) ∧ 0 ≤ (31 : Int) ∧ (31 : Int) ≤ 18446744073709551615)])) (fun _ => by kernel_rfl) ⟨(by omega),trivial⟩ ?_
 refine Cfg.reg rfl [4] [] (Γ' := [(4,[],.int .u32 ((((((x : Int) * 16384) % 4294967296)).toNat ||| (((x : Int) / 262144)).toNat : Nat) : Int))]) (nd := (fun _ => [(0 ≤ (14 : Int) ∧ 14 ≤ 32),(0 ≤ (18 : Int) ∧ 18 ≤ 32),((0 ≤ (((x : Int) * 16384) % 4294967296) ∧ (((x : Int) * 16384) % 4294967296) ≤ 4294967295) ∧ 0 ≤ ((x : Int) / 262144) ∧ ((x : Int) / 262144) ≤ 4294967295)])) (fun _ => by kernel_rfl) ⟨(by omega),(by omega),(by omega),trivial⟩ ?_
 refine Cfg.ret rfl (rs := [.tmp 4]) rfl [.int .u32 ((((((x : Int) * 16384) % 4294967296)).toNat ||| (((x : Int) / 262144)).toNat : Nat) : Int)] ⟨by kernel_rfl,trivial⟩ (fun w1 hp => ?_)
 refine ⟨?_,hp.ext⟩
 unfold rotl
 rw [show x * 16384 % 4294967296 = ((x : Int) * 16384 % 4294967296).toNat by omega,show x / 262144 = ((x : Int) / 262144).toNat by omega]
 rfl
set_option maxRecDepth 100000 in
theorem rot15 (x : Nat) (w : World) (hx : x < 2 ^ 32) :
  Calls Tryz.prog 128 #[.int .u32 (x : Int),.int .i64 (-17)] w fun e w' => e = .returned (.int .u32 (rotl x 32768 131072 : Int)) ∧ Ext [] w w' := by
 refine enter (vs := [.int .u32 (x : Int),.int .i64 (-17)]) [] [] [] Tryz.func128 rfl (by kernel_rfl) (HP.start w) ?_
 refine Cfg.reg rfl [0,1] [] (Γ' := [(0,[],.int .u32 (x : Int)),(1,[],.int .i64 (-17))]) (nd := (fun _ => [])) (fun _ => by kernel_rfl) trivial ?_
 refine Cfg.reg rfl [0,5] [] (Γ' := [(5,[],.int .u64 15),(0,[],.int .u32 (x : Int))]) (nd := (fun _ => [((0 ≤ (18446744073709551599 : Int) ∧ (18446744073709551599 : Int) ≤ 18446744073709551615) ∧ 0 ≤ (31 : Int) ∧ (31 : Int) ≤ 18446744073709551615)])) (fun _ => by kernel_rfl) ⟨(by omega),trivial⟩ ?_
 refine Cfg.reg rfl [4] [] (Γ' := [(4,[],.int .u32 ((((((x : Int) * 32768) % 4294967296)).toNat ||| (((x : Int) / 131072)).toNat : Nat) : Int))]) (nd := (fun _ => [(0 ≤ (15 : Int) ∧ 15 ≤ 32),(0 ≤ (17 : Int) ∧ 17 ≤ 32),((0 ≤ (((x : Int) * 32768) % 4294967296) ∧ (((x : Int) * 32768) % 4294967296) ≤ 4294967295) ∧ 0 ≤ ((x : Int) / 131072) ∧ ((x : Int) / 131072) ≤ 4294967295)])) (fun _ => by kernel_rfl) ⟨(by omega),(by omega),(by omega),trivial⟩ ?_
 refine Cfg.ret rfl (rs := [.tmp 4]) rfl [.int .u32 ((((((x : Int) * 32768) % 4294967296)).toNat ||| (((x : Int) / 131072)).toNat : Nat) : Int)] ⟨by kernel_rfl,trivial⟩ (fun w1 hp => ?_)
 refine ⟨?_,hp.ext⟩
 unfold rotl
 rw [show x * 32768 % 4294967296 = ((x : Int) * 32768 % 4294967296).toNat by omega,show x / 131072 = ((x : Int) / 131072).toNat by omega]
 rfl
set_option maxRecDepth 100000 in
theorem rot13 (x : Nat) (w : World) (hx : x < 2 ^ 32) :
  Calls Tryz.prog 128 #[.int .u32 (x : Int),.int .i64 (-19)] w fun e w' => e = .returned (.int .u32 (rotl x 8192 524288 : Int)) ∧ Ext [] w w' := by
 refine enter (vs := [.int .u32 (x : Int),.int .i64 (-19)]) [] [] [] Tryz.func128 rfl (by kernel_rfl) (HP.start w) ?_
 refine Cfg.reg rfl [0,1] [] (Γ' := [(0,[],.int .u32 (x : Int)),(1,[],.int .i64 (-19))]) (nd := (fun _ => [])) (fun _ => by kernel_rfl) trivial ?_
 refine Cfg.reg rfl [0,5] [] (Γ' := [(5,[],.int .u64 13),(0,[],.int .u32 (x : Int))]) (nd := (fun _ => [((0 ≤ (18446744073709551597 : Int) ∧ (18446744073709551597 : Int) ≤ 18446744073709551615) ∧ 0 ≤ (31 : Int) ∧ (31 : Int) ≤ 18446744073709551615)])) (fun _ => by kernel_rfl) ⟨(by omega),trivial⟩ ?_
 refine Cfg.reg rfl [4] [] (Γ' := [(4,[],.int .u32 ((((((x : Int) * 8192) % 4294967296)).toNat ||| (((x : Int) / 524288)).toNat : Nat) : Int))]) (nd := (fun _ => [(0 ≤ (13 : Int) ∧ 13 ≤ 32),(0 ≤ (19 : Int) ∧ 19 ≤ 32),((0 ≤ (((x : Int) * 8192) % 4294967296) ∧ (((x : Int) * 8192) % 4294967296) ≤ 4294967295) ∧ 0 ≤ ((x : Int) / 524288) ∧ ((x : Int) / 524288) ≤ 4294967295)])) (fun _ => by kernel_rfl) ⟨(by omega),(by omega),(by omega),trivial⟩ ?_
 refine Cfg.ret rfl (rs := [.tmp 4]) rfl [.int .u32 ((((((x : Int) * 8192) % 4294967296)).toNat ||| (((x : Int) / 524288)).toNat : Nat) : Int)] ⟨by kernel_rfl,trivial⟩ (fun w1 hp => ?_)
 refine ⟨?_,hp.ext⟩
 unfold rotl
 rw [show x * 8192 % 4294967296 = ((x : Int) * 8192 % 4294967296).toNat by omega,show x / 524288 = ((x : Int) / 524288).toNat by omega]
 rfl
set_option maxRecDepth 100000 in
theorem rot26 (x : Nat) (w : World) (hx : x < 2 ^ 32) :
  Calls Tryz.prog 128 #[.int .u32 (x : Int),.int .i64 (-6)] w fun e w' => e = .returned (.int .u32 (rotl x 67108864 64 : Int)) ∧ Ext [] w w' := by
 refine enter (vs := [.int .u32 (x : Int),.int .i64 (-6)]) [] [] [] Tryz.func128 rfl (by kernel_rfl) (HP.start w) ?_
 refine Cfg.reg rfl [0,1] [] (Γ' := [(0,[],.int .u32 (x : Int)),(1,[],.int .i64 (-6))]) (nd := (fun _ => [])) (fun _ => by kernel_rfl) trivial ?_
 refine Cfg.reg rfl [0,5] [] (Γ' := [(5,[],.int .u64 26),(0,[],.int .u32 (x : Int))]) (nd := (fun _ => [((0 ≤ (18446744073709551610 : Int) ∧ (18446744073709551610 : Int) ≤ 18446744073709551615) ∧ 0 ≤ (31 : Int) ∧ (31 : Int) ≤ 18446744073709551615)])) (fun _ => by kernel_rfl) ⟨(by omega),trivial⟩ ?_
 refine Cfg.reg rfl [4] [] (Γ' := [(4,[],.int .u32 ((((((x : Int) * 67108864) % 4294967296)).toNat ||| (((x : Int) / 64)).toNat : Nat) : Int))]) (nd := (fun _ => [(0 ≤ (26 : Int) ∧ 26 ≤ 32),(0 ≤ (6 : Int) ∧ 6 ≤ 32),((0 ≤ (((x : Int) * 67108864) % 4294967296) ∧ (((x : Int) * 67108864) % 4294967296) ≤ 4294967295) ∧ 0 ≤ ((x : Int) / 64) ∧ ((x : Int) / 64) ≤ 4294967295)])) (fun _ => by kernel_rfl) ⟨(by omega),(by omega),(by omega),trivial⟩ ?_
 refine Cfg.ret rfl (rs := [.tmp 4]) rfl [.int .u32 ((((((x : Int) * 67108864) % 4294967296)).toNat ||| (((x : Int) / 64)).toNat : Nat) : Int)] ⟨by kernel_rfl,trivial⟩ (fun w1 hp => ?_)
 refine ⟨?_,hp.ext⟩
 unfold rotl
 rw [show x * 67108864 % 4294967296 = ((x : Int) * 67108864 % 4294967296).toNat by omega,show x / 64 = ((x : Int) / 64).toNat by omega]
 rfl
set_option maxRecDepth 100000 in
theorem rot21 (x : Nat) (w : World) (hx : x < 2 ^ 32) :
  Calls Tryz.prog 128 #[.int .u32 (x : Int),.int .i64 (-11)] w fun e w' => e = .returned (.int .u32 (rotl x 2097152 2048 : Int)) ∧ Ext [] w w' := by
 refine enter (vs := [.int .u32 (x : Int),.int .i64 (-11)]) [] [] [] Tryz.func128 rfl (by kernel_rfl) (HP.start w) ?_
 refine Cfg.reg rfl [0,1] [] (Γ' := [(0,[],.int .u32 (x : Int)),(1,[],.int .i64 (-11))]) (nd := (fun _ => [])) (fun _ => by kernel_rfl) trivial ?_
 refine Cfg.reg rfl [0,5] [] (Γ' := [(5,[],.int .u64 21),(0,[],.int .u32 (x : Int))]) (nd := (fun _ => [((0 ≤ (18446744073709551605 : Int) ∧ (18446744073709551605 : Int) ≤ 18446744073709551615) ∧ 0 ≤ (31 : Int) ∧ (31 : Int) ≤ 18446744073709551615)])) (fun _ => by kernel_rfl) ⟨(by omega),trivial⟩ ?_
 refine Cfg.reg rfl [4] [] (Γ' := [(4,[],.int .u32 ((((((x : Int) * 2097152) % 4294967296)).toNat ||| (((x : Int) / 2048)).toNat : Nat) : Int))]) (nd := (fun _ => [(0 ≤ (21 : Int) ∧ 21 ≤ 32),(0 ≤ (11 : Int) ∧ 11 ≤ 32),((0 ≤ (((x : Int) * 2097152) % 4294967296) ∧ (((x : Int) * 2097152) % 4294967296) ≤ 4294967295) ∧ 0 ≤ ((x : Int) / 2048) ∧ ((x : Int) / 2048) ≤ 4294967295)])) (fun _ => by kernel_rfl) ⟨(by omega),(by omega),(by omega),trivial⟩ ?_
 refine Cfg.ret rfl (rs := [.tmp 4]) rfl [.int .u32 ((((((x : Int) * 2097152) % 4294967296)).toNat ||| (((x : Int) / 2048)).toNat : Nat) : Int)] ⟨by kernel_rfl,trivial⟩ (fun w1 hp => ?_)
 refine ⟨?_,hp.ext⟩
 unfold rotl
 rw [show x * 2097152 % 4294967296 = ((x : Int) * 2097152 % 4294967296).toNat by omega,show x / 2048 = ((x : Int) / 2048).toNat by omega]
 rfl
set_option maxRecDepth 100000 in
theorem rot7 (x : Nat) (w : World) (hx : x < 2 ^ 32) :
  Calls Tryz.prog 128 #[.int .u32 (x : Int),.int .i64 (-25)] w fun e w' => e = .returned (.int .u32 (rotl x 128 33554432 : Int)) ∧ Ext [] w w' := by
 refine enter (vs := [.int .u32 (x : Int),.int .i64 (-25)]) [] [] [] Tryz.func128 rfl (by kernel_rfl) (HP.start w) ?_
 refine Cfg.reg rfl [0,1] [] (Γ' := [(0,[],.int .u32 (x : Int)),(1,[],.int .i64 (-25))]) (nd := (fun _ => [])) (fun _ => by kernel_rfl) trivial ?_
 refine Cfg.reg rfl [0,5] [] (Γ' := [(5,[],.int .u64 7),(0,[],.int .u32 (x : Int))]) (nd := (fun _ => [((0 ≤ (18446744073709551591 : Int) ∧ (18446744073709551591 : Int) ≤ 18446744073709551615) ∧ 0 ≤ (31 : Int) ∧ (31 : Int) ≤ 18446744073709551615)])) (fun _ => by kernel_rfl) ⟨(by omega),trivial⟩ ?_
 refine Cfg.reg rfl [4] [] (Γ' := [(4,[],.int .u32 ((((((x : Int) * 128) % 4294967296)).toNat ||| (((x : Int) / 33554432)).toNat : Nat) : Int))]) (nd := (fun _ => [(0 ≤ (7 : Int) ∧ 7 ≤ 32),(0 ≤ (25 : Int) ∧ 25 ≤ 32),((0 ≤ (((x : Int) * 128) % 4294967296) ∧ (((x : Int) * 128) % 4294967296) ≤ 4294967295) ∧ 0 ≤ ((x : Int) / 33554432) ∧ ((x : Int) / 33554432) ≤ 4294967295)])) (fun _ => by kernel_rfl) ⟨(by omega),(by omega),(by omega),trivial⟩ ?_
 refine Cfg.ret rfl (rs := [.tmp 4]) rfl [.int .u32 ((((((x : Int) * 128) % 4294967296)).toNat ||| (((x : Int) / 33554432)).toNat : Nat) : Int)] ⟨by kernel_rfl,trivial⟩ (fun w1 hp => ?_)
 refine ⟨?_,hp.ext⟩
 unfold rotl
 rw [show x * 128 % 4294967296 = ((x : Int) * 128 % 4294967296).toNat by omega,show x / 33554432 = ((x : Int) / 33554432).toNat by omega]
 rfl
set_option maxRecDepth 100000 in
theorem rot30 (x : Nat) (w : World) (hx : x < 2 ^ 32) :
  Calls Tryz.prog 128 #[.int .u32 (x : Int),.int .i64 (-2)] w fun e w' => e = .returned (.int .u32 (rotl x 1073741824 4 : Int)) ∧ Ext [] w w' := by
 refine enter (vs := [.int .u32 (x : Int),.int .i64 (-2)]) [] [] [] Tryz.func128 rfl (by kernel_rfl) (HP.start w) ?_
 refine Cfg.reg rfl [0,1] [] (Γ' := [(0,[],.int .u32 (x : Int)),(1,[],.int .i64 (-2))]) (nd := (fun _ => [])) (fun _ => by kernel_rfl) trivial ?_
 refine Cfg.reg rfl [0,5] [] (Γ' := [(5,[],.int .u64 30),(0,[],.int .u32 (x : Int))]) (nd := (fun _ => [((0 ≤ (18446744073709551614 : Int) ∧ (18446744073709551614 : Int) ≤ 18446744073709551615) ∧ 0 ≤ (31 : Int) ∧ (31 : Int) ≤ 18446744073709551615)])) (fun _ => by kernel_rfl) ⟨(by omega),trivial⟩ ?_
 refine Cfg.reg rfl [4] [] (Γ' := [(4,[],.int .u32 ((((((x : Int) * 1073741824) % 4294967296)).toNat ||| (((x : Int) / 4)).toNat : Nat) : Int))]) (nd := (fun _ => [(0 ≤ (30 : Int) ∧ 30 ≤ 32),(0 ≤ (2 : Int) ∧ 2 ≤ 32),((0 ≤ (((x : Int) * 1073741824) % 4294967296) ∧ (((x : Int) * 1073741824) % 4294967296) ≤ 4294967295) ∧ 0 ≤ ((x : Int) / 4) ∧ ((x : Int) / 4) ≤ 4294967295)])) (fun _ => by kernel_rfl) ⟨(by omega),(by omega),(by omega),trivial⟩ ?_
 refine Cfg.ret rfl (rs := [.tmp 4]) rfl [.int .u32 ((((((x : Int) * 1073741824) % 4294967296)).toNat ||| (((x : Int) / 4)).toNat : Nat) : Int)] ⟨by kernel_rfl,trivial⟩ (fun w1 hp => ?_)
 refine ⟨?_,hp.ext⟩
 unfold rotl
 rw [show x * 1073741824 % 4294967296 = ((x : Int) * 1073741824 % 4294967296).toNat by omega,show x / 4 = ((x : Int) / 4).toNat by omega]
 rfl
set_option maxRecDepth 100000 in
theorem rot19 (x : Nat) (w : World) (hx : x < 2 ^ 32) :
  Calls Tryz.prog 128 #[.int .u32 (x : Int),.int .i64 (-13)] w fun e w' => e = .returned (.int .u32 (rotl x 524288 8192 : Int)) ∧ Ext [] w w' := by
 refine enter (vs := [.int .u32 (x : Int),.int .i64 (-13)]) [] [] [] Tryz.func128 rfl (by kernel_rfl) (HP.start w) ?_
 refine Cfg.reg rfl [0,1] [] (Γ' := [(0,[],.int .u32 (x : Int)),(1,[],.int .i64 (-13))]) (nd := (fun _ => [])) (fun _ => by kernel_rfl) trivial ?_
 refine Cfg.reg rfl [0,5] [] (Γ' := [(5,[],.int .u64 19),(0,[],.int .u32 (x : Int))]) (nd := (fun _ => [((0 ≤ (18446744073709551603 : Int) ∧ (18446744073709551603 : Int) ≤ 18446744073709551615) ∧ 0 ≤ (31 : Int) ∧ (31 : Int) ≤ 18446744073709551615)])) (fun _ => by kernel_rfl) ⟨(by omega),trivial⟩ ?_
 refine Cfg.reg rfl [4] [] (Γ' := [(4,[],.int .u32 ((((((x : Int) * 524288) % 4294967296)).toNat ||| (((x : Int) / 8192)).toNat : Nat) : Int))]) (nd := (fun _ => [(0 ≤ (19 : Int) ∧ 19 ≤ 32),(0 ≤ (13 : Int) ∧ 13 ≤ 32),((0 ≤ (((x : Int) * 524288) % 4294967296) ∧ (((x : Int) * 524288) % 4294967296) ≤ 4294967295) ∧ 0 ≤ ((x : Int) / 8192) ∧ ((x : Int) / 8192) ≤ 4294967295)])) (fun _ => by kernel_rfl) ⟨(by omega),(by omega),(by omega),trivial⟩ ?_
 refine Cfg.ret rfl (rs := [.tmp 4]) rfl [.int .u32 ((((((x : Int) * 524288) % 4294967296)).toNat ||| (((x : Int) / 8192)).toNat : Nat) : Int)] ⟨by kernel_rfl,trivial⟩ (fun w1 hp => ?_)
 refine ⟨?_,hp.ext⟩
 unfold rotl
 rw [show x * 524288 % 4294967296 = ((x : Int) * 524288 % 4294967296).toNat by omega,show x / 8192 = ((x : Int) / 8192).toNat by omega]
 rfl
set_option maxRecDepth 100000 in
theorem rot10 (x : Nat) (w : World) (hx : x < 2 ^ 32) :
  Calls Tryz.prog 128 #[.int .u32 (x : Int),.int .i64 (-22)] w fun e w' => e = .returned (.int .u32 (rotl x 1024 4194304 : Int)) ∧ Ext [] w w' := by
 refine enter (vs := [.int .u32 (x : Int),.int .i64 (-22)]) [] [] [] Tryz.func128 rfl (by kernel_rfl) (HP.start w) ?_
 refine Cfg.reg rfl [0,1] [] (Γ' := [(0,[],.int .u32 (x : Int)),(1,[],.int .i64 (-22))]) (nd := (fun _ => [])) (fun _ => by kernel_rfl) trivial ?_
 refine Cfg.reg rfl [0,5] [] (Γ' := [(5,[],.int .u64 10),(0,[],.int .u32 (x : Int))]) (nd := (fun _ => [((0 ≤ (18446744073709551594 : Int) ∧ (18446744073709551594 : Int) ≤ 18446744073709551615) ∧ 0 ≤ (31 : Int) ∧ (31 : Int) ≤ 18446744073709551615)])) (fun _ => by kernel_rfl) ⟨(by omega),trivial⟩ ?_
 refine Cfg.reg rfl [4] [] (Γ' := [(4,[],.int .u32 ((((((x : Int) * 1024) % 4294967296)).toNat ||| (((x : Int) / 4194304)).toNat : Nat) : Int))]) (nd := (fun _ => [(0 ≤ (10 : Int) ∧ 10 ≤ 32),(0 ≤ (22 : Int) ∧ 22 ≤ 32),((0 ≤ (((x : Int) * 1024) % 4294967296) ∧ (((x : Int) * 1024) % 4294967296) ≤ 4294967295) ∧ 0 ≤ ((x : Int) / 4194304) ∧ ((x : Int) / 4194304) ≤ 4294967295)])) (fun _ => by kernel_rfl) ⟨(by omega),(by omega),(by omega),trivial⟩ ?_
 refine Cfg.ret rfl (rs := [.tmp 4]) rfl [.int .u32 ((((((x : Int) * 1024) % 4294967296)).toNat ||| (((x : Int) / 4194304)).toNat : Nat) : Int)] ⟨by kernel_rfl,trivial⟩ (fun w1 hp => ?_)
 refine ⟨?_,hp.ext⟩
 unfold rotl
 rw [show x * 1024 % 4294967296 = ((x : Int) * 1024 % 4294967296).toNat by omega,show x / 4194304 = ((x : Int) / 4194304).toNat by omega]
 rfl
end Go.Proofs.YtojefiolcedigaaGreatDoor
namespace Go.Proofs.YtojefiolcedigaaGreatDoor
open K
set_option linter.unusedVariables false
def stC (hs : List Nat) (bl : List UInt8) (held total : Nat) : Array Value := ((wv hs).toList ++ ((bv bl).toList ++ [Value.int .i64 (held : Int),Value.int .u64 (total : Int)])).toArray
theorem wlen {hs : List Nat} {n : Nat} (h : hs.length = n) : (wv hs).toList.length = n := by rw [Array.length_toList,wv_size,h]
theorem blen {hs : List UInt8} {n : Nat} (h : hs.length = n) : (bv hs).toList.length = n := by rw [Array.length_toList,bv_size,h]
section
variable {hs : List Nat} {bl : List UInt8} {held total : Nat}
theorem st_size (hh : hs.length = 8) (hb : bl.length = 64) : (stC hs bl held total).size = 74 := by
 have h1 := wlen hh; have h2 := blen hb
 simp only [stC,List.size_toArray,List.length_append,h1,h2]; rfl
theorem st_sum (hh : hs.length = 8) {k : Nat} (hk : k < 8) : (stC hs bl held total)[k]? = some (.int .u32 ((hs.getD k 0 : Nat) : Int)) := by
 have h1 := wv_get hh hk
 have h2 := wlen hh
 rw [← Array.getElem?_toList] at h1
 simp only [stC,List.getElem?_toArray]
 rw [List.getElem?_append_left (by omega),h1]
theorem st_byte (hh : hs.length = 8) (hb : bl.length = 64) {j : Nat} (hj : j < 64) : (stC hs bl held total)[8 + j]? = some (.int .u8 ((bl.getD j 0).toNat : Int)) := by
 have h1 := bv_get hb hj
 have h2 := wlen hh; have h3 := blen hb
 rw [← Array.getElem?_toList] at h1
 simp only [stC,List.getElem?_toArray]
 rw [List.getElem?_append_right (by omega),h2,show 8 + j - 8 = j by omega,List.getElem?_append_left (by omega),h1]
theorem st_held (hh : hs.length = 8) (hb : bl.length = 64) : (stC hs bl held total)[72]? = some (.int .i64 (held : Int)) := by
 have h2 := wlen hh; have h3 := blen hb
 simp only [stC,List.getElem?_toArray]
 rw [List.getElem?_append_right (by omega),h2,List.getElem?_append_right (by omega),h3]; rfl
theorem st_total (hh : hs.length = 8) (hb : bl.length = 64) : (stC hs bl held total)[73]? = some (.int .u64 (total : Int)) := by
 have h2 := wlen hh; have h3 := blen hb
 simp only [stC,List.getElem?_toArray]
 rw [List.getElem?_append_right (by omega),h2,List.getElem?_append_right (by omega),h3]; rfl
theorem st_setSum (hh : hs.length = 8) {k : Nat} (hk : k < 8) {x : Int} (hx : 0 ≤ x) : (stC hs bl held total).setIfInBounds k (.int .u32 x) = stC (hs.set k x.toNat) bl held total := by
 have h1 := wv_set (l := hs) (i := k) hx
 have h2 := wlen hh
 apply Array.ext'
 simp only [stC,List.setIfInBounds_toArray]
 rw [List.set_append_left _ _ (by omega),← h1,Array.toList_setIfInBounds]
theorem st_setHeld (hh : hs.length = 8) (hb : bl.length = 64) {n : Nat} {x : Int} (hx : x = (n : Int)) : (stC hs bl held total).setIfInBounds 72 (.int .i64 x) = stC hs bl n total := by
 subst hx
 have h2 := wlen hh; have h3 := blen hb
 apply Array.ext'
 simp only [stC,List.setIfInBounds_toArray]
 rw [List.set_append_right _ _ (by omega),h2,List.set_append_right _ _ (by omega),h3]; rfl
theorem st_setTotal (hh : hs.length = 8) (hb : bl.length = 64) {n : Nat} {x : Int} (hx : x = (n : Int)) : (stC hs bl held total).setIfInBounds 73 (.int .u64 x) = stC hs bl held n := by
 subst hx
 have h2 := wlen hh; have h3 := blen hb
 apply Array.ext'
 simp only [stC,List.setIfInBounds_toArray]
 rw [List.set_append_right _ _ (by omega),h2,List.set_append_right _ _ (by omega),h3]; rfl
end
def be4 (a b c d : Nat) : Nat := (((a * 16777216 % 4294967296) ||| (b * 65536 % 4294967296)) ||| (c * 256 % 4294967296)) ||| d
theorem m24 (n : Nat) : ((n : Int) * 16777216 % 4294967296).toNat = n * 16777216 % 4294967296 := by omega
theorem m16 (n : Nat) : ((n : Int) * 65536 % 4294967296).toNat = n * 65536 % 4294967296 := by omega
theorem m8 (n : Nat) : ((n : Int) * 256 % 4294967296).toNat = n * 256 % 4294967296 := by omega
theorem d10 (n : Nat) : ((n : Int) / 1024).toNat = n / 1024 := by omega
theorem d3 (n : Nat) : ((n : Int) / 8).toNat = n / 8 := by omega
theorem be4_eq (a b c d : Nat) : (((((((((((((a : Nat) : Int) * 16777216) % 4294967296)).toNat ||| (((((b : Nat) : Int) * 65536) % 4294967296)).toNat : Nat) : Int)).toNat ||| (((((c : Nat) : Int) * 256) % 4294967296)).toNat : Nat) : Int)).toNat ||| ((((d : Nat) : Int))).toNat : Nat) : Int) = ((be4 a b c d : Nat) : Int) := by
 unfold be4
 rw [m24,m16,m8,Int.toNat_natCast,Int.toNat_natCast,Int.toNat_natCast]
def bt4 (bl : List UInt8) (i : Nat) : Nat := (bl.getD i 0).toNat
def be (bl : List UInt8) (t : Nat) : Nat := be4 (bt4 bl (4 * t)) (bt4 bl (4 * t + 1)) (bt4 bl (4 * t + 2)) (bt4 bl (4 * t + 3))
def wlow (x : Nat) : Nat := (rotl x 33554432 128 ^^^ rotl x 16384 262144) ^^^ (x / 8)
def whigh (x : Nat) : Nat := (rotl x 32768 131072 ^^^ rotl x 8192 524288) ^^^ (x / 1024)
theorem x3 (p q r : Nat) (c : Int) (h : c.toNat = r) : ((((((p : Nat) : Int)).toNat ^^^ (((q : Nat) : Int)).toNat : Nat) : Int)).toNat ^^^ c.toNat = (p ^^^ q) ^^^ r := by rw [h]; rfl
theorem wsum (a b c d : Nat) : ((((((a : Int) + (b : Int)) % 4294967296) + (c : Int)) % 4294967296) + (d : Int)) % 4294967296 = (((((a + b) % 4294967296 + c) % 4294967296 + d) % 4294967296 : Nat) : Int) := by omega
def wn4 (y x7 x x16 : Nat) : Nat := (((whigh y + x7) % 4294967296 + wlow x) % 4294967296 + x16) % 4294967296
theorem wn_eq (y x7 x x16 : Nat) : (((((((((((rotl y 32768 131072 : Int)).toNat ^^^ ((rotl y 8192 524288 : Int)).toNat : Nat) : Int)).toNat ^^^ (((y : Int) / 1024)).toNat : Nat) : Int) + (x7 : Int)) % 4294967296) + (((((((rotl x 33554432 128 : Int)).toNat ^^^ ((rotl x 16384 262144 : Int)).toNat : Nat) : Int)).toNat ^^^ (((x : Int) / 8)).toNat : Nat) : Int)) % 4294967296 + (x16 : Int)) % 4294967296 = ((wn4 y x7 x x16 : Nat) : Int) := by
 rw [x3 _ _ _ _ (d10 y),x3 _ _ _ _ (d3 x)]
 exact wsum (whigh y) x7 (wlow x) x16
def rg (r : List Nat) (i : Nat) : Nat := r.getD i 0
def wnext (bl : List UInt8) (r : List Nat) (t : Nat) : Nat := if t < 16 then be bl t else wn4 (rg r (t - 2)) (rg r (t - 7)) (rg r (t - 15)) (rg r (t - 16))
def row (bl : List UInt8) : Nat → List Nat
 | 0 => List.replicate 64 0
 | t + 1 => (row bl t).set t (wnext bl (row bl t) t)
theorem row_len (bl : List UInt8) : ∀ t,(row bl t).length = 64
 | 0 => by simp [row]
 | t + 1 => by rw [row,List.length_set]; exact row_len bl t
theorem b8 (b : UInt8) : b.toNat < 2 ^ 32 := by have := UInt8.toNat_lt b; omega
theorem bt4_lt (bl : List UInt8) (i : Nat) : bt4 bl i < 256 := UInt8.toNat_lt _
theorem b84 (bl : List UInt8) (i : Nat) : bt4 bl i < 2 ^ 32 := b8 _
theorem be_lt (bl : List UInt8) (t : Nat) : be bl t < 2 ^ 32 :=
 Nat.or_lt_two_pow (Nat.or_lt_two_pow (Nat.or_lt_two_pow (Nat.mod_lt _ (by decide)) (Nat.mod_lt _ (by decide))) (Nat.mod_lt _ (by decide))) (b84 _ _)
theorem wnext_lt (bl : List UInt8) (r : List Nat) (t : Nat) : wnext bl r t < 2 ^ 32 := by
 unfold wnext
 split
 ·exact be_lt ..
 ·exact Nat.mod_lt _ (by decide)
theorem row_lt (bl : List UInt8) : ∀ t j,rg (row bl t) j < 2 ^ 32
 | 0,j => by
  simp only [rg,row,List.getD_eq_getElem?_getD,List.getElem?_replicate]
  split <;> simp
 | t + 1,j => by
  have ih := row_lt bl t j
  simp only [rg,row,List.getD_eq_getElem?_getD,List.getElem?_set] at *
  split
  ·split
   ·exact wnext_lt ..
   ·simp
  ·exact ih
theorem row_step (bl : List UInt8) (t : Nat) {x : Int} (hx : x = (wnext bl (row bl t) t : Int)) : (wv (row bl t)).setIfInBounds t (.int .u32 x) = wv (row bl (t + 1)) := by
 subst hx
 rw [wv_set (by omega)]
 rfl
theorem wnext_lo {bl : List UInt8} {t : Nat} (h : t < 16) {x : Int} (hx : x = ((be bl t : Nat) : Int)) : x = (wnext bl (row bl t) t : Int) := by rw [hx]; unfold wnext; rw [if_pos h]
theorem wnext_hi {bl : List UInt8} {t : Nat} (h : 16 ≤ t) {x : Int} (hx : x = ((wn4 (rg (row bl t) (t - 2)) (rg (row bl t) (t - 7)) (rg (row bl t) (t - 15)) (rg (row bl t) (t - 16)) : Nat) : Int)) : x = (wnext bl (row bl t) t : Int) := by rw [hx]; unfold wnext; rw [if_neg (by omega)]
theorem wsize (bl : List UInt8) (t : Nat) : (wv (row bl t)).size = 64 := by rw [wv_size,row_len]
end Go.Proofs.YtojefiolcedigaaGreatDoor
namespace Go.Proofs.YtojefiolcedigaaGreatDoor
open K
set_option linter.unusedVariables false
def Kc : List Nat := [1116352408,1899447441,3049323471,3921009573,961987163,1508970993,2453635748,2870763221,3624381080,310598401,607225278,1426881987,1925078388,2162078206,2614888103,3248222580,3835390401,4022224774,264347078,604807628,770255983,1249150122,1555081692,1996064986,2554220882,2821834349,2952996808,3210313671,3336571891,3584528711,113926993,338241895,666307205,773529912,1294757372,1396182291,1695183700,1986661051,2177026350,2456956037,2730485921,2820302411,3259730800,3345764771,3516065817,3600352804,4094571909,275423344,430227734,506948616,659060556,883997877,958139571,1322822218,1537002063,1747873779,1955562222,2024104815,2227730452,2361852424,2428436474,2756734187,3204031479,3329325298]
structure W8 where
 a : Nat
 b : Nat
 c : Nat
 d : Nat
 e : Nat
 f : Nat
 g : Nat
 h : Nat
structure W8.Ok (s : W8) : Prop where
 a : s.a < 2 ^ 32
 b : s.b < 2 ^ 32
 c : s.c < 2 ^ 32
 d : s.d < 2 ^ 32
 e : s.e < 2 ^ 32
 f : s.f < 2 ^ 32
 g : s.g < 2 ^ 32
 h : s.h < 2 ^ 32
def bigE (x : Nat) : Nat := (rotl x 67108864 64 ^^^ rotl x 2097152 2048) ^^^ rotl x 128 33554432
def bigA (x : Nat) : Nat := (rotl x 1073741824 4 ^^^ rotl x 524288 8192) ^^^ rotl x 1024 4194304
def choi (e f g : Nat) : Nat := (e &&& f) ^^^ ((4294967295 ^^^ e) &&& g)
def most (a b c : Nat) : Nat := ((a &&& b) ^^^ (a &&& c)) ^^^ (b &&& c)
def fst5 (h x c k w : Nat) : Nat := ((((h + x) % 4294967296 + c) % 4294967296 + k) % 4294967296 + w) % 4294967296
def frst (k w : Nat) (s : W8) : Nat := fst5 s.h (bigE s.e) (choi s.e s.f s.g) k w
def scnd (s : W8) : Nat := (bigA s.a + most s.a s.b s.c) % 4294967296
def rnd (k w : Nat) (s : W8) : W8 := ⟨(frst k w s + scnd s) % 4294967296,s.a,s.b,s.c,(s.d + frst k w s) % 4294967296,s.e,s.f,s.g⟩
def w8 (l : List Nat) : W8 := ⟨rg l 0,rg l 1,rg l 2,rg l 3,rg l 4,rg l 5,rg l 6,rg l 7⟩
def w8l (s : W8) : List Nat := [s.a,s.b,s.c,s.d,s.e,s.f,s.g,s.h]
def rv (hs : List Nat) (bl : List UInt8) : Nat → W8
 | 0 => w8 hs
 | t + 1 => rnd (rg Kc t) (rg (row bl 64) t) (rv hs bl t)
theorem rv_ok {hs : List Nat} (hlt : ∀ i,rg hs i < 2 ^ 32) (bl : List UInt8) : ∀ t,(rv hs bl t).Ok
 | 0 => ⟨hlt 0,hlt 1,hlt 2,hlt 3,hlt 4,hlt 5,hlt 6,hlt 7⟩
 | t + 1 => by
  have ih := rv_ok hlt bl t
  exact ⟨Nat.mod_lt _ (by decide),ih.a,ih.b,ih.c,Nat.mod_lt _ (by decide),ih.e,ih.f,ih.g⟩
theorem add32 (x y : Nat) : ((x : Int) + (y : Int)) % 4294967296 = (((x + y) % 4294967296 : Nat) : Int) := by omega
theorem fst5_eq (h x c k w : Nat) : ((((((((h : Int) + (x : Int)) % 4294967296) + (c : Int)) % 4294967296) + (k : Int)) % 4294967296) + (w : Int)) % 4294967296 = ((fst5 h x c k w : Nat) : Int) := by unfold fst5; omega
def sm (hs vs : List Nat) : Nat → List Nat
 | 0 => hs
 | k + 1 => (sm hs vs k).set k ((rg (sm hs vs k) k + rg vs k) % 4294967296)
theorem sm_len {hs : List Nat} (vs : List Nat) (hh : hs.length = 8) : ∀ k,(sm hs vs k).length = 8
 | 0 => hh
 | k + 1 => by rw [sm,List.length_set]; exact sm_len vs hh k
theorem sm_lt {hs : List Nat} (vs : List Nat) (hlt : ∀ i,rg hs i < 2 ^ 32) : ∀ k i,rg (sm hs vs k) i < 2 ^ 32
 | 0,i => hlt i
 | k + 1,i => by
  have ih := sm_lt vs hlt k i
  simp only [rg,sm,List.getD_eq_getElem?_getD,List.getElem?_set] at *
  split
  ·split
   ·exact Nat.mod_lt _ (by decide)
   ·simp
  ·exact ih
def mixF (hs : List Nat) (bl : List UInt8) : List Nat := sm hs (w8l (rv hs bl 64)) 8
theorem sm_step {hs vs : List Nat} {bl : List UInt8} {held total k : Nat} (hh : hs.length = 8) (hk : k < 8) :
  (stC (sm hs vs k) bl held total).setIfInBounds k (.int .u32 (((rg (sm hs vs k) k : Int) + (rg vs k : Int)) % 4294967296)) = stC (sm hs vs (k + 1)) bl held total := by
 rw [add32,st_setSum (sm_len vs hh k) hk (by omega),Int.toNat_natCast]
 rfl
theorem xx3 (p q r : Nat) : ((((((((p : Nat) : Int)).toNat ^^^ (((q : Nat) : Int)).toNat : Nat) : Int)).toNat ^^^ (((r : Nat) : Int)).toNat : Nat) : Int) = (((p ^^^ q) ^^^ r : Nat) : Int) := rfl
theorem cc4 (m e f g : Nat) : (((((((e : Nat) : Int)).toNat &&& (((f : Nat) : Int)).toNat : Nat) : Int)).toNat ^^^ ((((((m ^^^ (((e : Nat) : Int)).toNat : Nat) : Int)).toNat &&& (((g : Nat) : Int)).toNat : Nat) : Int)).toNat : Nat) = (((e &&& f) ^^^ ((m ^^^ e) &&& g) : Nat) : Int) := rfl
theorem bigE_eq (x : Nat) : ((((((rotl x 67108864 64 : Int)).toNat ^^^ ((rotl x 2097152 2048 : Int)).toNat : Nat) : Int)).toNat ^^^ ((rotl x 128 33554432 : Int)).toNat : Nat) = ((bigE x : Nat) : Int) := by unfold bigE; exact xx3 _ _ _
theorem bigA_eq (x : Nat) : ((((((rotl x 1073741824 4 : Int)).toNat ^^^ ((rotl x 524288 8192 : Int)).toNat : Nat) : Int)).toNat ^^^ ((rotl x 1024 4194304 : Int)).toNat : Nat) = ((bigA x : Nat) : Int) := by unfold bigA; exact xx3 _ _ _
theorem choi_eq (e f g : Nat) : (((((((e : Nat) : Int)).toNat &&& (((f : Nat) : Int)).toNat : Nat) : Int)).toNat ^^^ ((((((4294967295 ^^^ (((e : Nat) : Int)).toNat : Nat) : Int)).toNat &&& (((g : Nat) : Int)).toNat : Nat) : Int)).toNat : Nat) = ((choi e f g : Nat) : Int) := by unfold choi; exact cc4 _ _ _ _
theorem most_eq (a b c : Nat) : ((((((((((a : Int)).toNat &&& ((b : Int)).toNat : Nat) : Int)).toNat ^^^ (((((a : Int)).toNat &&& ((c : Int)).toNat : Nat) : Int)).toNat : Nat) : Int)).toNat ^^^ (((((b : Int)).toNat &&& ((c : Int)).toNat : Nat) : Int)).toNat : Nat) : Int) = ((most a b c : Nat) : Int) := rfl
theorem frst_eq (k w : Nat) (s : W8) : ((((((((s.h : Int) + (bigE s.e : Int)) % 4294967296) + (choi s.e s.f s.g : Int)) % 4294967296) + (k : Int)) % 4294967296) + (w : Int)) % 4294967296 = ((frst k w s : Nat) : Int) := by unfold frst; exact fst5_eq _ _ _ _ _
theorem scnd_eq (s : W8) : ((bigA s.a : Int) + (most s.a s.b s.c : Int)) % 4294967296 = ((scnd s : Nat) : Int) := by unfold scnd; exact add32 _ _
theorem rv_succ (hs : List Nat) (bl : List UInt8) (t : Nat) : rv hs bl (t + 1) = rnd (rg Kc t) (rg (row bl 64) t) (rv hs bl t) := rfl
theorem rnd_def (k w : Nat) (s : W8) : rnd k w s = ⟨(frst k w s + scnd s) % 4294967296,s.a,s.b,s.c,(s.d + frst k w s) % 4294967296,s.e,s.f,s.g⟩ := rfl
section
variable (a b c d e f g h : Nat)
theorem pa : (W8.mk a b c d e f g h).a = a := rfl
theorem pb : (W8.mk a b c d e f g h).b = b := rfl
theorem pc : (W8.mk a b c d e f g h).c = c := rfl
theorem pd : (W8.mk a b c d e f g h).d = d := rfl
theorem pe : (W8.mk a b c d e f g h).e = e := rfl
theorem pf : (W8.mk a b c d e f g h).f = f := rfl
theorem pg : (W8.mk a b c d e f g h).g = g := rfl
theorem ph : (W8.mk a b c d e f g h).h = h := rfl
end
section
variable (hs : List Nat) (bl : List UInt8) (t : Nat)
theorem rv_a : ((frst (rg Kc t) (rg (row bl 64) t) (rv hs bl t) : Int) + (scnd (rv hs bl t) : Int)) % 4294967296 = ((rv hs bl (t + 1)).a : Int) := by rw [rv_succ,rnd_def,pa,add32]
theorem rv_b : ((rv hs bl t).a : Int) = ((rv hs bl (t + 1)).b : Int) := by rw [rv_succ,rnd_def,pb]
theorem rv_c : ((rv hs bl t).b : Int) = ((rv hs bl (t + 1)).c : Int) := by rw [rv_succ,rnd_def,pc]
theorem rv_d : ((rv hs bl t).c : Int) = ((rv hs bl (t + 1)).d : Int) := by rw [rv_succ,rnd_def,pd]
theorem rv_e : (((rv hs bl t).d : Int) + (frst (rg Kc t) (rg (row bl 64) t) (rv hs bl t) : Int)) % 4294967296 = ((rv hs bl (t + 1)).e : Int) := by rw [rv_succ,rnd_def,pe,add32]
theorem rv_f : ((rv hs bl t).e : Int) = ((rv hs bl (t + 1)).f : Int) := by rw [rv_succ,rnd_def,pf]
theorem rv_g : ((rv hs bl t).f : Int) = ((rv hs bl (t + 1)).g : Int) := by rw [rv_succ,rnd_def,pg]
theorem rv_h : ((rv hs bl t).g : Int) = ((rv hs bl (t + 1)).h : Int) := by rw [rv_succ,rnd_def,ph]
end
theorem w8l_len (s : W8) : (w8l s).length = 8 := rfl
def KT (kt : Array Value) : Prop := ∀ t,t < 64 → kt[t]? = some (.int .u32 (rg Kc t : Int))
end Go.Proofs.YtojefiolcedigaaGreatDoor
namespace Go.Proofs.YtojefiolcedigaaGreatDoor
open K
set_option linter.unusedVariables false
structure Sh where
 hs : List Nat
 bl : List UInt8
 held : Nat
structure Sh.Ok (s : Sh) : Prop where
 hh : s.hs.length = 8
 hb : s.bl.length = 64
 hlt : ∀ i,rg s.hs i < 2 ^ 32
 held : s.held < 64
theorem mixF_len {hs : List Nat} (bl : List UInt8) (hh : hs.length = 8) : (mixF hs bl).length = 8 := sm_len _ hh 8
theorem mixF_lt {hs : List Nat} (bl : List UInt8) (hlt : ∀ i,rg hs i < 2 ^ 32) : ∀ i,rg (mixF hs bl) i < 2 ^ 32 := sm_lt _ hlt 8
def feedB (s : Sh) (c : UInt8) : Sh := if s.held + 1 = 64 then ⟨mixF s.hs (s.bl.set s.held c),s.bl.set s.held c,0⟩ else ⟨s.hs,s.bl.set s.held c,s.held + 1⟩
def feed (s : Sh) (l : List UInt8) : Sh := l.foldl feedB s
theorem feed_nil (s : Sh) : feed s [] = s := rfl
theorem feed_app (s : Sh) (a b : List UInt8) : feed s (a ++ b) = feed (feed s a) b := List.foldl_append ..
theorem feedB_ok {s : Sh} (h : s.Ok) (c : UInt8) : (feedB s c).Ok := by
 unfold feedB
 split
 ·exact ⟨mixF_len _ h.hh,by simp [h.hb],mixF_lt _ h.hlt,Nat.zero_lt_succ 63⟩
 ·have := h.held
  exact ⟨h.hh,by simp [h.hb],h.hlt,by show s.held + 1 < 64; omega⟩
theorem feed_ok : ∀ (l : List UInt8) {s : Sh},s.Ok → (feed s l).Ok
 | [],s,h => h
 | c :: l,s,h => feed_ok l (feedB_ok h c)
theorem feedB_held {s : Sh} (h : s.Ok) (c : UInt8) : (feedB s c).held = (s.held + 1) % 64 := by
 have := h.held
 unfold feedB
 split <;> simp only <;> omega
theorem feed_held : ∀ (l : List UInt8) {s : Sh},s.Ok → (feed s l).held = (s.held + l.length) % 64
 | [],s,h => by have := h.held; show s.held = (s.held + 0) % 64; omega
 | c :: l,s,h => by
  have e := feed_held l (feedB_ok h c)
  rw [feedB_held h c] at e
  show (feed (feedB s c) l).held = _
  rw [e,List.length_cons]; omega
def lay (bl : List UInt8) (off : Nat) : List UInt8 → List UInt8
 | [] => bl
 | c :: l => lay (bl.set off c) (off + 1) l
theorem lay_len : ∀ (l bl : List UInt8) (off : Nat),(lay bl off l).length = bl.length
 | [],bl,off => rfl
 | c :: l,bl,off => by rw [lay,lay_len l,List.length_set]
theorem feed_part : ∀ (l : List UInt8) (hs : List Nat) (bl : List UInt8) (held : Nat),held + l.length < 64 → feed ⟨hs,bl,held⟩ l = ⟨hs,lay bl held l,held + l.length⟩
 | [],hs,bl,held,_ => rfl
 | c :: l,hs,bl,held,h => by
  rw [List.length_cons] at h
  have e : feedB ⟨hs,bl,held⟩ c = ⟨hs,bl.set held c,held + 1⟩ := by unfold feedB; rw [if_neg (by show ¬ held + 1 = 64; omega)]
  show feed (feedB ⟨hs,bl,held⟩ c) l = _
  rw [e,feed_part l hs (bl.set held c) (held + 1) (by omega),lay,List.length_cons,show held + 1 + l.length = held + (l.length + 1) by omega]
theorem feed_full : ∀ (l : List UInt8) (hs : List Nat) (bl : List UInt8) (held : Nat),held < 64 → held + l.length = 64 → feed ⟨hs,bl,held⟩ l = ⟨mixF hs (lay bl held l),lay bl held l,0⟩
 | [],hs,bl,held,h0,h => by simp at h; omega
 | c :: l,hs,bl,held,h0,h => by
  rw [List.length_cons] at h
  show feed (feedB ⟨hs,bl,held⟩ c) l = _
  by_cases hl : held + 1 = 64
  ·obtain rfl : l = [] := List.eq_nil_of_length_eq_zero (by omega)
   unfold feedB; rw [if_pos hl]; rfl
  ·have e : feedB ⟨hs,bl,held⟩ c = ⟨hs,bl.set held c,held + 1⟩ := by unfold feedB; rw [if_neg hl]
   rw [e,feed_full l hs (bl.set held c) (held + 1) (by omega) (by omega),lay]
theorem st_setByte {hs : List Nat} {bl : List UInt8} {held total j : Nat} (hh : hs.length = 8) (hb : bl.length = 64) (hj : j < 64) (c : UInt8) :
  (stC hs bl held total).setIfInBounds (8 + j) (.int .u8 (c.toNat : Int)) = stC hs (bl.set j c) held total := by
 have h1 := bv_set (l := bl) (i := j) (x := (c.toNat : Int)) (by omega) (by have := UInt8.toNat_lt c; omega)
 have h2 := wlen hh; have h3 := blen hb
 apply Array.ext'
 simp only [stC,List.setIfInBounds_toArray]
 rw [List.set_append_right _ _ (by omega),h2,show 8 + j - 8 = j by omega,List.set_append_left _ _ (by omega)]
 rw [show UInt8.ofNat ((c.toNat : Int)).toNat = c by simp] at h1
 rw [← h1,Array.toList_setIfInBounds]
theorem spl_lay : ∀ (l : List UInt8) {hs : List Nat} {bl : List UInt8} {held total j : Nat},hs.length = 8 → bl.length = 64 → j + l.length ≤ 64 → spl (stC hs bl held total) (8 + j) (bv l).toList = stC hs (lay bl j l) held total
 | [],hs,bl,held,total,j,hh,hb,hj => rfl
 | c :: l,hs,bl,held,total,j,hh,hb,hj => by
  rw [List.length_cons] at hj
  show spl ((stC hs bl held total).setIfInBounds (8 + j) (.int .u8 (c.toNat : Int))) (8 + j + 1) (bv l).toList = _
  rw [st_setByte hh hb (by omega),show 8 + j + 1 = 8 + (j + 1) by omega,spl_lay l hh (by simp [hb]) (by omega),lay]
theorem off_eq {held : Nat} (h : held < 64) : (if 64 = held then 8 else (addO 8 held)) = 8 + held := by rw [if_neg (by omega),addO_eq]
theorem ext_list (p : ByteArray) (n : Nat) : (p.extract n p.size).data.toList = p.data.toList.drop n := by
 rw [ByteArray.data_extract,Array.toList_extract]
 have : p.size = p.data.toList.length := by simp
 rw [this,List.extract_eq_take_drop,List.take_of_length_le (by simp)]
theorem part_len {p : ByteArray} {n : Nat} (h : n ≤ p.size) : (p.data.toList.take n).length = n := by
 have : p.size = p.data.toList.length := by simp
 rw [List.length_take]; omega
theorem feed_ext (s : Sh) (p : ByteArray) (n : Nat) : feed (feed s (p.data.toList.take n)) (p.extract n p.size).data.toList = feed s p.data.toList := by
 rw [ext_list,← feed_app,List.take_append_drop]
def cn (p : ByteArray) (held : Nat) : Nat := min p.size (64 - held)
theorem ext_size (p : ByteArray) (n : Nat) (h : n ≤ p.size) : (p.extract n p.size).size = p.size - n := by
 rw [ByteArray.size_extract]; omega
end Go.Proofs.YtojefiolcedigaaGreatDoor
namespace Go.Proofs.YtojefiolcedigaaGreatDoor
open K
set_option linter.unusedVariables false
def lb (total : Nat) : Nat := total * 8 % 18446744073709551616
theorem lb_eq (total : Nat) : ((total : Int) * 8) % 18446744073709551616 = ((lb total : Nat) : Int) := by unfold lb; omega
def pz (z : Sh) (j : Nat) : Sh := feed z (128 :: List.replicate j 0)
def tj (total j : Nat) : Nat := (total + 1 + j) % 18446744073709551616
def padN (z : Sh) : Nat := (119 - z.held) % 64
theorem pz_zero (z : Sh) : feedB z 128 = pz z 0 := rfl
theorem pz_succ (z : Sh) (j : Nat) : feedB (pz z j) 0 = pz z (j + 1) := by
 unfold pz
 rw [List.replicate_succ',← List.cons_append,feed_app]; rfl
theorem tj_zero (total : Nat) : (total + 1) % 18446744073709551616 = tj total 0 := rfl
theorem tj_succ (total j : Nat) : (tj total j + 1) % 18446744073709551616 = tj total (j + 1) := by unfold tj; omega
theorem pz_ok {z : Sh} (h : z.Ok) (j : Nat) : (pz z j).Ok := feed_ok _ h
theorem pz_held {z : Sh} (h : z.Ok) (j : Nat) : (pz z j).held = (z.held + 1 + j) % 64 := by
 unfold pz
 rw [feed_held _ h,List.length_cons,List.length_replicate,show z.held + (j + 1) = z.held + 1 + j by omega]
theorem pad_end {z : Sh} (h : z.Ok) {j : Nat} (hj : j ≤ padN z) : ((pz z j).held : Int) = 56 ↔ j = padN z := by
 have h1 := h.held
 rw [pz_held h]
 unfold padN at *
 omega
def tb (n i : Nat) : UInt8 := UInt8.ofNat (n / 2 ^ (56 - 8 * i))
def tlr (n k : Nat) : List UInt8 := (List.range k).map (tb n) ++ List.replicate (8 - k) 0
theorem tlr_len {n k : Nat} (h : k ≤ 8) : (tlr n k).length = 8 := by simp [tlr]; omega
theorem u8mod (m : Nat) : UInt8.ofNat (m % 256) = UInt8.ofNat m := by apply UInt8.toNat_inj.1; simp
theorem set_one (A : List UInt8) (m : Nat) (x : UInt8) (hm : 1 ≤ m) : (A ++ List.replicate m 0).set A.length x = A ++ [x] ++ List.replicate (m - 1) 0 := by
 obtain ⟨q,rfl⟩ : ∃ q,m = q + 1 := ⟨m - 1,by omega⟩
 simp [List.replicate_succ]
theorem tlr_step {n k : Nat} (hk : k < 8) {x : Int} (hx : x = (n : Int) / ((2 ^ ((56 - 8 * (k : Int))).toNat : Nat) : Int) % 256) : (bv (tlr n k)).setIfInBounds k (.int .u8 x) = bv (tlr n (k + 1)) := by
 have e : x = ((n / 2 ^ (56 - 8 * k) % 256 : Nat) : Int) := by
  rw [hx,show (56 - 8 * (k : Int)).toNat = 56 - 8 * k by omega]; rfl
 subst e
 have hb : n / 2 ^ (56 - 8 * k) % 256 < 256 := Nat.mod_lt _ (by decide)
 rw [bv_set (Int.natCast_nonneg _) (by omega),Int.toNat_natCast,u8mod]
 congr 1
 have h1 := set_one ((List.range k).map (tb n)) (8 - k) (tb n k) (by omega)
 rw [List.length_map,List.length_range] at h1
 unfold tlr
 rw [List.range_succ,List.map_append]
 exact h1
def tls (n : Nat) : ByteArray := ⟨(tlr n 8).toArray⟩
def dg4 (x : Nat) : List UInt8 := [UInt8.ofNat (x / 16777216),UInt8.ofNat (x / 65536),UInt8.ofNat (x / 256),UInt8.ofNat x]
def dgr (hs : List Nat) (k : Nat) : List UInt8 := (List.range k).flatMap (fun i => dg4 (rg hs i)) ++ List.replicate (32 - 4 * k) 0
theorem dgf_len (hs : List Nat) : ∀ k,((List.range k).flatMap (fun i => dg4 (rg hs i))).length = 4 * k
 | 0 => rfl
 | k + 1 => by rw [List.range_succ,List.flatMap_append,List.length_append,dgf_len hs k]; simp [dg4]; omega
theorem dgr_len {hs : List Nat} {k : Nat} (h : k ≤ 8) : (dgr hs k).length = 32 := by simp only [dgr,List.length_append,dgf_len,List.length_replicate]; omega
theorem set_four (A : List UInt8) (m : Nat) (a b c d : UInt8) (hm : 4 ≤ m) : ((((A ++ List.replicate m 0).set A.length a).set (A.length + 1) b).set (A.length + 2) c).set (A.length + 3) d = A ++ [a,b,c,d] ++ List.replicate (m - 4) 0 := by
 obtain ⟨q,rfl⟩ : ∃ q,m = q + 4 := ⟨m - 4,by omega⟩
 simp [List.replicate_succ]
theorem bset (l : List UInt8) (i m : Nat) : (bv l).setIfInBounds i (.int .u8 ((m % 256 : Nat) : Int)) = bv (l.set i (UInt8.ofNat m)) := by
 have hb : m % 256 < 256 := Nat.mod_lt _ (by decide)
 rw [bv_set (Int.natCast_nonneg _) (by omega),Int.toNat_natCast,u8mod]
theorem dgr_step (hs : List Nat) {k : Nat} (hk : k < 8) {a b c d : Int} (ha : a = ((rg hs k / 16777216 % 256 : Nat) : Int)) (hb : b = ((rg hs k / 65536 % 256 : Nat) : Int)) (hc : c = ((rg hs k / 256 % 256 : Nat) : Int)) (hd : d = ((rg hs k % 256 : Nat) : Int)) :
  ((((bv (dgr hs k)).setIfInBounds (4 * k) (.int .u8 a)).setIfInBounds ((4 * k) + 1) (.int .u8 b)).setIfInBounds ((4 * k) + 2) (.int .u8 c)).setIfInBounds ((4 * k) + 3) (.int .u8 d) = bv (dgr hs (k + 1)) := by
 subst ha hb hc hd
 rw [bset,bset,bset,bset]
 congr 1
 have h1 := set_four ((List.range k).flatMap (fun i => dg4 (rg hs i))) (32 - 4 * k) (UInt8.ofNat (rg hs k / 16777216)) (UInt8.ofNat (rg hs k / 65536)) (UInt8.ofNat (rg hs k / 256)) (UInt8.ofNat (rg hs k)) (by omega)
 rw [dgf_len] at h1
 unfold dgr
 rw [h1,List.range_succ,List.flatMap_append,show 32 - 4 * (k + 1) = 32 - 4 * k - 4 by omega]
 simp [dg4]
def z3 (z : Sh) (total : Nat) : Sh := feed (pz z (padN z)) (tlr (lb total) 8)
def shaEnd (z : Sh) (total : Nat) : List UInt8 := dgr (z3 z total).hs 8
theorem shaEnd_len (z : Sh) (total : Nat) : (shaEnd z total).length = 32 := dgr_len (Nat.le_refl 8)
theorem z3_ok {z : Sh} (h : z.Ok) (total : Nat) : (z3 z total).Ok := feed_ok _ (pz_ok h _)
theorem zsz : (bv (List.replicate 32 0)).size = 32 := rfl
theorem dsz (hs : List Nat) {k : Nat} (h : k ≤ 8) : (bv (dgr hs k)).size = 32 := (bv_size _).trans (dgr_len h)
end Go.Proofs.YtojefiolcedigaaGreatDoor
namespace Go.Proofs.YtojefiolcedigaaGreatDoor
open K
set_option linter.unusedVariables false
namespace K
theorem HP.dropM {w0 w w' : World} {M : List Nat} {R O : List (Nat × Obj)} (h : HP w0 M R O w) (i : Nat) {b : Nat} {o : Obj} (hi : O[i]? = some (b,o)) (hx : Ext [b] w w') : HP w0 M R (O.eraseIdx i) w' :=
 h.call hx _ (List.eraseIdx_sublist ..) (by
  intro k hk
  simp only [List.mem_cons,List.not_mem_nil,or_false] at hk
  subst hk
  exact List.mem_map.2 ⟨_,List.mem_of_getElem? hi,rfl⟩) (by
  intro e he hm
  simp only [List.mem_cons,List.not_mem_nil,or_false] at hm
  obtain ⟨j,hj⟩ := List.mem_iff_getElem?.1 he
  rw [List.getElem?_eraseIdx] at hj
  split at hj
  ·rename_i hlt
   have := nodup_inj h.dist (i := j) (j := i) (x := b) (by simp [hj,hm]) (by simp [hi])
   omega
  ·rename_i hlt
   have := nodup_inj h.dist (i := j + 1) (j := i) (x := b) (by simp [hj,hm]) (by simp [hi])
   omega)
theorem Eff.callD {C : Cx} {R O : List (Nat × Obj)} {Γ : Env} {o : Oper} {f : FuncId} {fn : Func} {c : Code} {xs : List Operand} {tys : Array TypeId} {vs : List Value} (v : Value) (i : Nat) {b : Nat} {ob : Obj} (ho : o.op = .call ⟨.value (.func f),xs.toArray,tys⟩) (hf : C.P.funcs[f]? = some fn)
  (hnm : (fn.name == "runtime.NumGoroutine") = false) (hb : fn.body = some c) (hx : opds Γ xs = some vs) (hi : O[i]? = some (b,ob))
  (h : ∀ w,HP C.w0 C.M R O w → Calls C.P f vs.toArray w fun e w' => e = .returned v ∧ Ext [b] w w') : Eff C R O Γ o Unit (fun _ => v) (fun _ => O.eraseIdx i) (fun _ => True) :=
 Eff.call ho hf hnm hb hx fun w hp => (h w hp).mono fun _ _ hh => ⟨(),trivial,hh.1,hp.dropM i hi hh.2⟩
end K
def H8 : List Nat := [1779033703,3144134277,1013904242,2773480762,1359893119,2600822924,528734635,1541459225]
def sh0 : Sh := ⟨H8,List.replicate 64 0,0⟩
theorem sh0_ok : sh0.Ok := ⟨rfl,rfl,fun i => by
 unfold sh0 H8 rg
 rcases i with _ | _ | _ | _ | _ | _ | _ | _ | i <;> simp,by decide⟩
def sat (ss : List ByteArray) (i : Nat) : ByteArray := ss.getD i ByteArray.empty
def cat (ss : List ByteArray) : List UInt8 := ss.flatMap fun s => s.data.toList
def sz (ss : List ByteArray) (i : Nat) : Sh := feed sh0 (cat (ss.take i))
def tt (ss : List ByteArray) (i : Nat) : Nat := (cat (ss.take i)).length % 18446744073709551616
theorem take_sat {ss : List ByteArray} {i : Nat} (h : i < ss.length) : ss.take (i + 1) = ss.take i ++ [sat ss i] := by
 rw [List.take_succ_eq_append_getElem h]; simp [sat,List.getElem?_eq_getElem h]
theorem cat_app (a b : List ByteArray) : cat (a ++ b) = cat a ++ cat b := List.flatMap_append ..
theorem cat_one (s : ByteArray) : cat [s] = s.data.toList := by simp [cat]
theorem sz_succ {ss : List ByteArray} {i : Nat} (h : i < ss.length) : feed (sz ss i) (sat ss i).data.toList = sz ss (i + 1) := by
 unfold sz; rw [take_sat h,cat_app,cat_one,feed_app]
theorem tt_succ {ss : List ByteArray} {i : Nat} (h : i < ss.length) : (tt ss i + (sat ss i).size) % 18446744073709551616 = tt ss (i + 1) := by
 unfold tt; rw [take_sat h,cat_app,cat_one,List.length_append]
 have : (sat ss i).data.toList.length = (sat ss i).size := by simp
 omega
theorem sz_ok (ss : List ByteArray) (i : Nat) : (sz ss i).Ok := feed_ok _ sh0_ok
def shaD (l : List UInt8) : List UInt8 := shaEnd (feed sh0 l) (l.length % 18446744073709551616)
theorem shaD_len (l : List UInt8) : (shaD l).length = 32 := shaEnd_len _ _
theorem sz_all (ss : List ByteArray) : shaEnd (sz ss ss.length) (tt ss ss.length) = shaD (cat ss) := by unfold sz tt shaD; rw [List.take_length]
theorem dz (l : List UInt8) : (bv (shaD l)).size = 32 := (bv_size _).trans (shaD_len l)
end Go.Proofs.YtojefiolcedigaaGreatDoor
namespace Go.Proofs.YtojefiolcedigaaGreatDoor
open K
set_option linter.unusedVariables false
set_option maxRecDepth 100000 in
theorem words (b : Nat) (hs : List Nat) (bl : List UInt8) (held total : Nat) (w : World) (hh : hs.length = 8) (hb : bl.length = 64) (hR : Has w [(b,.cells (stC hs bl held total) 151 (0,0))]) :
  Calls Tryz.prog 127 #[.pointer (some ⟨b,0,none⟩)] w fun e w' => e = .returned (.agg (wv (row bl 64))) ∧ Ext [] w w' := by
 refine enter (vs := [.pointer (some ⟨b,0,none⟩)]) [] [(b,.cells (stC hs bl held total) 151 (0,0))] [] Tryz.func127 rfl (by kernel_rfl) (HP.ofHas hR) ?_
 refine Cfg.begL rfl ?_
 refine CfgL.eff (o := _) rfl (by kernel_rfl) (by kernel_rfl) (Eff.alloc (z := (.agg (wv (List.replicate 64 0)))) rfl (by kernel_rfl)) ?_
 rintro r ⟨hr,nr⟩
 refine CfgL.done rfl ?_
 refine Cfg.begL rfl ?_
 refine CfgL.eff (o := _) rfl (by kernel_rfl) (by kernel_rfl) (Eff.alloc (z := (.agg (wv (List.replicate 64 0)))) rfl (by kernel_rfl)) ?_
 rintro xw ⟨hxw,nxw⟩
 refine CfgL.done rfl ?_
 refine Cfg.reg rfl [0,2,3,10] [] (Γ' := [(10,[],.int .i64 0),(3,[],.pointer (some ⟨xw,0,none⟩)),(2,[],.pointer (some ⟨r,0,none⟩)),(0,[],.pointer (some ⟨b,0,none⟩))]) (nd := (fun _ => [])) (fun _ => by kernel_rfl) trivial ?_
 refine Cfg.loop rfl (ι := Nat) (fun (t : Nat) => [(10,[],.int .i64 (t : Int)),(3,[],.pointer (some ⟨xw,0,none⟩)),(2,[],.pointer (some ⟨r,0,none⟩)),(0,[],.pointer (some ⟨b,0,none⟩))]) (fun (t : Nat) => [(xw,.cells (wv (row bl t)) 171 (0,0)),(r,.cells (wv (List.replicate 64 0)) 171 (0,0))]) (fun (t : Nat) => (t ≤ 16)) (fun (t : Nat) => 16 - t) 0 ?_ (Conv.mk (by kernel_rfl)) (.cons_cons _ (.cons_cons _ .slnil)) ?_
 ·exact Nat.zero_le _
 ·rintro t ht
  refine Cfg.reg rfl [0,2,3,10,11] [] (Γ' := [(11,[],.bool (decide ((t : Int) < (16 : Int)))),(10,[],.int .i64 (t : Int)),(3,[],.pointer (some ⟨xw,0,none⟩)),(2,[],.pointer (some ⟨r,0,none⟩)),(0,[],.pointer (some ⟨b,0,none⟩))]) (nd := (fun _ => [])) (fun _ => by kernel_rfl) trivial ?_
  refine Cfg.cond rfl (b := (decide ((t : Int) < (16 : Int)))) (by kernel_rfl) (fun c1r => ?_) (fun c1r => ?_)
  ·have c1 : ((t : Int) < (16 : Int)) := (of_decide_eq_true c1r)
   refine Cfg.reg rfl [0,2,3,4,10] [] (Γ' := [(4,[],.int .i64 (t : Int)),(10,[],.int .i64 (t : Int)),(3,[],.pointer (some ⟨xw,0,none⟩)),(2,[],.pointer (some ⟨r,0,none⟩)),(0,[],.pointer (some ⟨b,0,none⟩))]) (nd := (fun _ => [])) (fun _ => by kernel_rfl) trivial ?_
   refine Cfg.begA rfl (by kernel_rfl) [(r,.cells (wv (List.replicate 64 0)) 171 (0,0))] ?_
   refine CfgA.pure [0,1,2,3,4,5,6,7,8,9,10,11,12,13,14,15,16,17,18,19,20,21,22,23,24,25,26,27,28,29,30,31,32,33,34,35,36,37,38,39,40,41,42] [dZ,dZ,dZ,dZ,dZ,dZ,dZ,(0,false,some (.int .u8 (bt4 bl (4 * t) : Int))),dZ,dZ,dZ,dZ,dZ,dZ,dZ,dZ,dZ,(0,false,some (.int .u8 (bt4 bl ((4 * t) + 1) : Int))),dZ,dZ,dZ,dZ,dZ,dZ,dZ,dZ,dZ,dZ,(0,false,some (.int .u8 (bt4 bl ((4 * t) + 2) : Int))),dZ,dZ,dZ,dZ,dZ,dZ,dZ,dZ,dZ,dZ,(0,false,some (.int .u8 (bt4 bl ((4 * t) + 3) : Int)))] (some [0,2,3,10,54,55]) (l' := tF 43 1) (by kernel_rfl) (by kernel_rfl) (.cons _ (.cons_cons _ .slnil)) 1 rfl (Γ' := [(55,[],.pointer (some ⟨xw,t,none⟩)),(54,[],.int .u32 ((((((((((((bt4 bl (4 * t) : Int) * 16777216) % 4294967296)).toNat ||| ((((bt4 bl ((4 * t) + 1) : Int) * 65536) % 4294967296)).toNat : Nat) : Int)).toNat ||| ((((bt4 bl ((4 * t) + 2) : Int) * 256) % 4294967296)).toNat : Nat) : Int)).toNat ||| ((bt4 bl ((4 * t) + 3) : Int)).toNat : Nat) : Int)),(10,[],.int .i64 (t : Int)),(3,[],.pointer (some ⟨xw,0,none⟩)),(2,[],.pointer (some ⟨r,0,none⟩)),(0,[],.pointer (some ⟨b,0,none⟩))]) (nd := (fun S => [((-9223372036854775808 : Int) ≤ (4 * (t : Int)) ∧ (4 * (t : Int)) ≤ 9223372036854775807),(0 ≤ (4 * (t : Int)) ∧ (4 * (t : Int)) < (64 : Int)),(∀ w1,S w1 → w1.cell? ⟨b,(addO 8 (4 * t)),none⟩ = some (.int .u8 (bt4 bl (4 * t) : Int))),((0 : Int) ≤ (bt4 bl (4 * t) : Int) ∧ (bt4 bl (4 * t) : Int) ≤ 4294967295),(0 ≤ (24 : Int) ∧ 24 ≤ 32),((-9223372036854775808 : Int) ≤ (4 * (t : Int)) ∧ (4 * (t : Int)) ≤ 9223372036854775807),((-9223372036854775808 : Int) ≤ ((4 * (t : Int)) + 1) ∧ ((4 * (t : Int)) + 1) ≤ 9223372036854775807),(0 ≤ ((4 * (t : Int)) + 1) ∧ ((4 * (t : Int)) + 1) < (64 : Int)),(∀ w1,S w1 → w1.cell? ⟨b,(addO 8 ((4 * t) + 1)),none⟩ = some (.int .u8 (bt4 bl ((4 * t) + 1) : Int))),((0 : Int) ≤ (bt4 bl ((4 * t) + 1) : Int) ∧ (bt4 bl ((4 * t) + 1) : Int) ≤ 4294967295),(0 ≤ (16 : Int) ∧ 16 ≤ 32),((0 ≤ (((bt4 bl (4 * t) : Int) * 16777216) % 4294967296) ∧ (((bt4 bl (4 * t) : Int) * 16777216) % 4294967296) ≤ 4294967295) ∧ 0 ≤ (((bt4 bl ((4 * t) + 1) : Int) * 65536) % 4294967296) ∧ (((bt4 bl ((4 * t) + 1) : Int) * 65536) % 4294967296) ≤ 4294967295),((-9223372036854775808 : Int) ≤ (4 * (t : Int)) ∧ (4 * (t : Int)) ≤ 9223372036854775807),((-9223372036854775808 : Int) ≤ ((4 * (t : Int)) + 2) ∧ ((4 * (t : Int)) + 2) ≤ 9223372036854775807),(0 ≤ ((4 * (t : Int)) + 2) ∧ ((4 * (t : Int)) + 2) < (64 : Int)),(∀ w1,S w1 → w1.cell? ⟨b,(addO 8 ((4 * t) + 2)),none⟩ = some (.int .u8 (bt4 bl ((4 * t) + 2) : Int))),((0 : Int) ≤ (bt4 bl ((4 * t) + 2) : Int) ∧ (bt4 bl ((4 * t) + 2) : Int) ≤ 4294967295),(0 ≤ (8 : Int) ∧ 8 ≤ 32),((0 ≤ ((((((bt4 bl (4 * t) : Int) * 16777216) % 4294967296)).toNat ||| ((((bt4 bl ((4 * t) + 1) : Int) * 65536) % 4294967296)).toNat : Nat) : Int) ∧ ((((((bt4 bl (4 * t) : Int) * 16777216) % 4294967296)).toNat ||| ((((bt4 bl ((4 * t) + 1) : Int) * 65536) % 4294967296)).toNat : Nat) : Int) ≤ 4294967295) ∧ 0 ≤ (((bt4 bl ((4 * t) + 2) : Int) * 256) % 4294967296) ∧ (((bt4 bl ((4 * t) + 2) : Int) * 256) % 4294967296) ≤ 4294967295),((-9223372036854775808 : Int) ≤ (4 * (t : Int)) ∧ (4 * (t : Int)) ≤ 9223372036854775807),((-9223372036854775808 : Int) ≤ ((4 * (t : Int)) + 3) ∧ ((4 * (t : Int)) + 3) ≤ 9223372036854775807),(0 ≤ ((4 * (t : Int)) + 3) ∧ ((4 * (t : Int)) + 3) < (64 : Int)),(∀ w1,S w1 → w1.cell? ⟨b,(addO 8 ((4 * t) + 3)),none⟩ = some (.int .u8 (bt4 bl ((4 * t) + 3) : Int))),((0 : Int) ≤ (bt4 bl ((4 * t) + 3) : Int) ∧ (bt4 bl ((4 * t) + 3) : Int) ≤ 4294967295),((0 ≤ (((((((((bt4 bl (4 * t) : Int) * 16777216) % 4294967296)).toNat ||| ((((bt4 bl ((4 * t) + 1) : Int) * 65536) % 4294967296)).toNat : Nat) : Int)).toNat ||| ((((bt4 bl ((4 * t) + 2) : Int) * 256) % 4294967296)).toNat : Nat) : Int) ∧ (((((((((bt4 bl (4 * t) : Int) * 16777216) % 4294967296)).toNat ||| ((((bt4 bl ((4 * t) + 1) : Int) * 65536) % 4294967296)).toNat : Nat) : Int)).toNat ||| ((((bt4 bl ((4 * t) + 2) : Int) * 256) % 4294967296)).toNat : Nat) : Int) ≤ 4294967295) ∧ 0 ≤ (bt4 bl ((4 * t) + 3) : Int) ∧ (bt4 bl ((4 * t) + 3) : Int) ≤ 4294967295),(0 ≤ (t : Int) ∧ (t : Int) < (64 : Int))])) (fun _ => by kernel_rfl) ⟨(by omega),(by omega),(fun w1 h => h.rcell 0 rfl (by rw [addO_eq]; exact st_byte hh hb (by omega))),(by have := bt4_lt bl (4 * t); omega),(by omega),(by omega),(by omega),(by omega),(fun w1 h => h.rcell 0 rfl (by rw [addO_eq]; exact st_byte hh hb (by omega))),(by have := bt4_lt bl ((4 * t) + 1); omega),(by omega),(by have := bt4_lt bl (4 * t); have := bt4_lt bl ((4 * t) + 1); omega),(by omega),(by omega),(by omega),(fun w1 h => h.rcell 0 rfl (by rw [addO_eq]; exact st_byte hh hb (by omega))),(by have := bt4_lt bl ((4 * t) + 2); omega),(by omega),⟨⟨Int.natCast_nonneg _,le_pow (b := 32) (Nat.or_lt_two_pow (by omega) (by omega))⟩,⟨by omega,by omega⟩⟩,(by omega),(by omega),(by omega),(fun w1 h => h.rcell 0 rfl (by rw [addO_eq]; exact st_byte hh hb (by omega))),(by have := bt4_lt bl ((4 * t) + 3); omega),⟨⟨Int.natCast_nonneg _,le_pow (b := 32) (Nat.or_lt_two_pow (tn_lt (Nat.or_lt_two_pow (by omega) (by omega))) (by omega))⟩,⟨Int.natCast_nonneg _,le_pow (b := 32) (b84 _ _)⟩⟩,(by omega),trivial⟩ ?_
   refine CfgA.eff 43 (o := _) rfl (by kernel_rfl) (fuel' := 0) rfl (by kernel_rfl) (by kernel_rfl) (Eff.store1 (b := xw) (off := t) (v := .int .u32 ((((((((((((bt4 bl (4 * t) : Int) * 16777216) % 4294967296)).toNat ||| ((((bt4 bl ((4 * t) + 1) : Int) * 65536) % 4294967296)).toNat : Nat) : Int)).toNat ||| ((((bt4 bl ((4 * t) + 2) : Int) * 256) % 4294967296)).toNat : Nat) : Int)).toNat ||| ((bt4 bl ((4 * t) + 3) : Int)).toNat : Nat) : Int)) rfl (by kernel_rfl) (by kernel_rfl) rfl (by kernel_rfl) 0 (cs := (wv (row bl t))) (e := 171) (by kernel_rfl) (by rw [wsize]; omega)) (fun _ _ => (.cons _ (.cons_cons _ .slnil))) ?_
   rintro ⟨⟩ -
   refine CfgA.done (by kernel_rfl) ?_
   refine Conv.cfg (Γ' := [(10,[],.int .i64 (t : Int)),(3,[],.pointer (some ⟨xw,0,none⟩)),(2,[],.pointer (some ⟨r,0,none⟩)),(0,[],.pointer (some ⟨b,0,none⟩))]) (Conv.mk (by kernel_rfl)) ?_
   refine Cfg.reg rfl [0,2,3,10] [] (Γ' := [(10,[],.int .i64 ((t : Int) + 1)),(3,[],.pointer (some ⟨xw,0,none⟩)),(2,[],.pointer (some ⟨r,0,none⟩)),(0,[],.pointer (some ⟨b,0,none⟩))]) (nd := (fun _ => [((-9223372036854775808 : Int) ≤ ((t : Int) + 1) ∧ ((t : Int) + 1) ≤ 9223372036854775807)])) (fun _ => by kernel_rfl) ⟨(by omega),trivial⟩ ?_
   refine Cfg.setO (congrArg (fun (xq : Array Value) => ([(xw,.cells xq 171 (0,0)),(r,.cells (wv (List.replicate 64 0)) 171 (0,0))] : List (Nat × Obj))) (show _ = (wv (row bl (t + 1))) from row_step bl t (wnext_lo (by omega) (be4_eq _ _ _ _)))) ?_
   refine Cfg.again rfl (t + 1) (by show t + 1 ≤ 16; omega) (by show 16 - (t + 1) < 16 - t; omega) (Conv.mk (by kernel_rfl)) (.cons_cons _ (.cons_cons _ .slnil))
  ·have c1 : (¬ ((t : Int) < (16 : Int))) := (of_decide_eq_false c1r)
   obtain rfl : t = 16 := by omega
   refine Conv.cfg (Γ' := [(3,[],.pointer (some ⟨xw,0,none⟩)),(2,[],.pointer (some ⟨r,0,none⟩)),(0,[],.pointer (some ⟨b,0,none⟩))]) (Conv.mk (by kernel_rfl)) ?_
   refine Cfg.reg rfl [2,3,5] [] (Γ' := [(5,[],.int .i64 16),(3,[],.pointer (some ⟨xw,0,none⟩)),(2,[],.pointer (some ⟨r,0,none⟩))]) (nd := (fun _ => [])) (fun _ => by kernel_rfl) trivial ?_
   refine Cfg.loop rfl (ι := Nat) (fun (t : Nat) => [(5,[],.int .i64 (t : Int)),(3,[],.pointer (some ⟨xw,0,none⟩)),(2,[],.pointer (some ⟨r,0,none⟩))]) (fun (t : Nat) => [(xw,.cells (wv (row bl t)) 171 (0,0)),(r,.cells (wv (List.replicate 64 0)) 171 (0,0))]) (fun (t : Nat) => (16 ≤ t) ∧ (t ≤ 64)) (fun (t : Nat) => 64 - t) 16 ?_ (Conv.mk (by kernel_rfl)) (.cons_cons _ (.cons_cons _ .slnil)) ?_
   ·exact ⟨Nat.le_refl _,by decide⟩
   ·rintro t ⟨ht0,ht⟩
    refine Cfg.reg rfl [2,3,5,58] [] (Γ' := [(58,[],.bool (decide ((t : Int) < (64 : Int)))),(5,[],.int .i64 (t : Int)),(3,[],.pointer (some ⟨xw,0,none⟩)),(2,[],.pointer (some ⟨r,0,none⟩))]) (nd := (fun _ => [])) (fun _ => by kernel_rfl) trivial ?_
    refine Cfg.cond rfl (b := (decide ((t : Int) < (64 : Int)))) (by kernel_rfl) (fun c2r => ?_) (fun c2r => ?_)
    ·have c2 : ((t : Int) < (64 : Int)) := (of_decide_eq_true c2r)
     refine Cfg.regD rfl (by kernel_rfl) [2,3,5,6,7] [dZ,dZ,dZ,(0,false,some (.int .u32 (rg (row bl t) (t - 15) : Int))),dZ,dZ,dZ,(0,false,some (.int .u32 (rg (row bl t) (t - 2) : Int)))] (Γ' := [(7,[],.int .u32 (rg (row bl t) (t - 2) : Int)),(6,[],.int .u32 (rg (row bl t) (t - 15) : Int)),(5,[],.int .i64 (t : Int)),(3,[],.pointer (some ⟨xw,0,none⟩)),(2,[],.pointer (some ⟨r,0,none⟩))]) (nd := (fun S => [((-9223372036854775808 : Int) ≤ ((t : Int) - 15) ∧ ((t : Int) - 15) ≤ 9223372036854775807),(0 ≤ ((t : Int) - 15) ∧ ((t : Int) - 15) < (64 : Int)),(∀ w1,S w1 → w1.cell? ⟨xw,(((t : Int) - 15)).toNat,none⟩ = some (.int .u32 (rg (row bl t) (t - 15) : Int))),((-9223372036854775808 : Int) ≤ ((t : Int) - 2) ∧ ((t : Int) - 2) ≤ 9223372036854775807),(0 ≤ ((t : Int) - 2) ∧ ((t : Int) - 2) < (64 : Int)),(∀ w1,S w1 → w1.cell? ⟨xw,(((t : Int) - 2)).toNat,none⟩ = some (.int .u32 (rg (row bl t) (t - 2) : Int)))])) (by kernel_rfl) (by kernel_rfl) (fun _ => by kernel_rfl) ⟨(by omega),(by omega),(fun w1 h => h.ocell 0 rfl (by rw [show (((t : Int) - 15)).toNat = (t - 15) by omega]; exact wv_get (row_len bl t) (by omega))),(by omega),(by omega),(fun w1 h => h.ocell 0 rfl (by rw [show (((t : Int) - 2)).toNat = (t - 2) by omega]; exact wv_get (row_len bl t) (by omega))),trivial⟩ ?_
     refine Cfg.begL rfl ?_
     refine CfgL.pure 1 [] none (Γ' := [(69,[],.int .u32 (rg (row bl t) (t - 15) : Int)),(7,[],.int .u32 (rg (row bl t) (t - 2) : Int)),(6,[],.int .u32 (rg (row bl t) (t - 15) : Int)),(5,[],.int .i64 (t : Int)),(3,[],.pointer (some ⟨xw,0,none⟩)),(2,[],.pointer (some ⟨r,0,none⟩))]) (nd := (fun _ => [])) (by kernel_rfl) (fun _ => by kernel_rfl) trivial ?_
     refine CfgL.eff (o := _) rfl (by kernel_rfl) (by kernel_rfl) (Eff.callA (vs := [.int .u32 (rg (row bl t) (t - 15) : Int),.int .i64 (-7)]) (.int .u32 (rotl (rg (row bl t) (t - 15)) 33554432 128 : Int)) rfl Tryz.func128 rfl rfl (by kernel_rfl) (fun w1 _ => rot25 _ w1 (row_lt bl t _))) ?_
     rintro ⟨⟩ -
     refine CfgL.pure 1 [] (some [2,3,5,6,7,70,71]) (Γ' := [(71,[],.int .u32 (rg (row bl t) (t - 15) : Int)),(70,[],.int .u32 (rotl (rg (row bl t) (t - 15)) 33554432 128 : Int)),(7,[],.int .u32 (rg (row bl t) (t - 2) : Int)),(6,[],.int .u32 (rg (row bl t) (t - 15) : Int)),(5,[],.int .i64 (t : Int)),(3,[],.pointer (some ⟨xw,0,none⟩)),(2,[],.pointer (some ⟨r,0,none⟩))]) (nd := (fun _ => [])) (by kernel_rfl) (fun _ => by kernel_rfl) trivial ?_
     refine CfgL.eff (o := _) rfl (by kernel_rfl) (by kernel_rfl) (Eff.callA (vs := [.int .u32 (rg (row bl t) (t - 15) : Int),.int .i64 (-18)]) (.int .u32 (rotl (rg (row bl t) (t - 15)) 16384 262144 : Int)) rfl Tryz.func128 rfl rfl (by kernel_rfl) (fun w1 _ => rot14 _ w1 (row_lt bl t _))) ?_
     rintro ⟨⟩ -
     refine CfgL.pure 5 [] (some [2,3,5,7,8]) (Γ' := [(8,[],.int .u32 (((((((rotl (rg (row bl t) (t - 15)) 33554432 128 : Int)).toNat ^^^ ((rotl (rg (row bl t) (t - 15)) 16384 262144 : Int)).toNat : Nat) : Int)).toNat ^^^ (((rg (row bl t) (t - 15) : Int) / 8)).toNat : Nat) : Int)),(7,[],.int .u32 (rg (row bl t) (t - 2) : Int)),(5,[],.int .i64 (t : Int)),(3,[],.pointer (some ⟨xw,0,none⟩)),(2,[],.pointer (some ⟨r,0,none⟩))]) (nd := (fun _ => [((0 ≤ (rotl (rg (row bl t) (t - 15)) 33554432 128 : Int) ∧ (rotl (rg (row bl t) (t - 15)) 33554432 128 : Int) ≤ 4294967295) ∧ 0 ≤ (rotl (rg (row bl t) (t - 15)) 16384 262144 : Int) ∧ (rotl (rg (row bl t) (t - 15)) 16384 262144 : Int) ≤ 4294967295),(0 ≤ (3 : Int) ∧ 3 ≤ 32),((0 ≤ ((((rotl (rg (row bl t) (t - 15)) 33554432 128 : Int)).toNat ^^^ ((rotl (rg (row bl t) (t - 15)) 16384 262144 : Int)).toNat : Nat) : Int) ∧ ((((rotl (rg (row bl t) (t - 15)) 33554432 128 : Int)).toNat ^^^ ((rotl (rg (row bl t) (t - 15)) 16384 262144 : Int)).toNat : Nat) : Int) ≤ 4294967295) ∧ 0 ≤ ((rg (row bl t) (t - 15) : Int) / 8) ∧ ((rg (row bl t) (t - 15) : Int) / 8) ≤ 4294967295)])) (by kernel_rfl) (fun _ => by kernel_rfl) ⟨⟨⟨Int.natCast_nonneg _,le_pow (b := 32) (rotl_lt (row_lt bl t _))⟩,⟨Int.natCast_nonneg _,le_pow (b := 32) (rotl_lt (row_lt bl t _))⟩⟩,(by omega),⟨⟨Int.natCast_nonneg _,le_pow (b := 32) (Nat.xor_lt_two_pow (tn_lt (rotl_lt (row_lt bl t _))) (tn_lt (rotl_lt (row_lt bl t _))))⟩,⟨Int.natCast_nonneg _,le_pow (b := 32) (Nat.lt_of_le_of_lt (Nat.div_le_self _ _) (row_lt bl t _))⟩⟩,trivial⟩ ?_
     refine CfgL.done rfl ?_
     refine Cfg.begL rfl ?_
     refine CfgL.pure 1 [] none (Γ' := [(77,[],.int .u32 (rg (row bl t) (t - 2) : Int)),(8,[],.int .u32 (((((((rotl (rg (row bl t) (t - 15)) 33554432 128 : Int)).toNat ^^^ ((rotl (rg (row bl t) (t - 15)) 16384 262144 : Int)).toNat : Nat) : Int)).toNat ^^^ (((rg (row bl t) (t - 15) : Int) / 8)).toNat : Nat) : Int)),(7,[],.int .u32 (rg (row bl t) (t - 2) : Int)),(5,[],.int .i64 (t : Int)),(3,[],.pointer (some ⟨xw,0,none⟩)),(2,[],.pointer (some ⟨r,0,none⟩))]) (nd := (fun _ => [])) (by kernel_rfl) (fun _ => by kernel_rfl) trivial ?_
     refine CfgL.eff (o := _) rfl (by kernel_rfl) (by kernel_rfl) (Eff.callA (vs := [.int .u32 (rg (row bl t) (t - 2) : Int),.int .i64 (-17)]) (.int .u32 (rotl (rg (row bl t) (t - 2)) 32768 131072 : Int)) rfl Tryz.func128 rfl rfl (by kernel_rfl) (fun w1 _ => rot15 _ w1 (row_lt bl t _))) ?_
     rintro ⟨⟩ -
     refine CfgL.pure 1 [] (some [2,3,5,7,8,78,79]) (Γ' := [(79,[],.int .u32 (rg (row bl t) (t - 2) : Int)),(78,[],.int .u32 (rotl (rg (row bl t) (t - 2)) 32768 131072 : Int)),(8,[],.int .u32 (((((((rotl (rg (row bl t) (t - 15)) 33554432 128 : Int)).toNat ^^^ ((rotl (rg (row bl t) (t - 15)) 16384 262144 : Int)).toNat : Nat) : Int)).toNat ^^^ (((rg (row bl t) (t - 15) : Int) / 8)).toNat : Nat) : Int)),(7,[],.int .u32 (rg (row bl t) (t - 2) : Int)),(5,[],.int .i64 (t : Int)),(3,[],.pointer (some ⟨xw,0,none⟩)),(2,[],.pointer (some ⟨r,0,none⟩))]) (nd := (fun _ => [])) (by kernel_rfl) (fun _ => by kernel_rfl) trivial ?_
     refine CfgL.eff (o := _) rfl (by kernel_rfl) (by kernel_rfl) (Eff.callA (vs := [.int .u32 (rg (row bl t) (t - 2) : Int),.int .i64 (-19)]) (.int .u32 (rotl (rg (row bl t) (t - 2)) 8192 524288 : Int)) rfl Tryz.func128 rfl rfl (by kernel_rfl) (fun w1 _ => rot13 _ w1 (row_lt bl t _))) ?_
     rintro ⟨⟩ -
     refine CfgL.pure 5 [] (some [2,3,5,8,9]) (Γ' := [(9,[],.int .u32 (((((((rotl (rg (row bl t) (t - 2)) 32768 131072 : Int)).toNat ^^^ ((rotl (rg (row bl t) (t - 2)) 8192 524288 : Int)).toNat : Nat) : Int)).toNat ^^^ (((rg (row bl t) (t - 2) : Int) / 1024)).toNat : Nat) : Int)),(8,[],.int .u32 (((((((rotl (rg (row bl t) (t - 15)) 33554432 128 : Int)).toNat ^^^ ((rotl (rg (row bl t) (t - 15)) 16384 262144 : Int)).toNat : Nat) : Int)).toNat ^^^ (((rg (row bl t) (t - 15) : Int) / 8)).toNat : Nat) : Int)),(5,[],.int .i64 (t : Int)),(3,[],.pointer (some ⟨xw,0,none⟩)),(2,[],.pointer (some ⟨r,0,none⟩))]) (nd := (fun _ => [((0 ≤ (rotl (rg (row bl t) (t - 2)) 32768 131072 : Int) ∧ (rotl (rg (row bl t) (t - 2)) 32768 131072 : Int) ≤ 4294967295) ∧ 0 ≤ (rotl (rg (row bl t) (t - 2)) 8192 524288 : Int) ∧ (rotl (rg (row bl t) (t - 2)) 8192 524288 : Int) ≤ 4294967295),(0 ≤ (10 : Int) ∧ 10 ≤ 32),((0 ≤ ((((rotl (rg (row bl t) (t - 2)) 32768 131072 : Int)).toNat ^^^ ((rotl (rg (row bl t) (t - 2)) 8192 524288 : Int)).toNat : Nat) : Int) ∧ ((((rotl (rg (row bl t) (t - 2)) 32768 131072 : Int)).toNat ^^^ ((rotl (rg (row bl t) (t - 2)) 8192 524288 : Int)).toNat : Nat) : Int) ≤ 4294967295) ∧ 0 ≤ ((rg (row bl t) (t - 2) : Int) / 1024) ∧ ((rg (row bl t) (t - 2) : Int) / 1024) ≤ 4294967295)])) (by kernel_rfl) (fun _ => by kernel_rfl) ⟨⟨⟨Int.natCast_nonneg _,le_pow (b := 32) (rotl_lt (row_lt bl t _))⟩,⟨Int.natCast_nonneg _,le_pow (b := 32) (rotl_lt (row_lt bl t _))⟩⟩,(by omega),⟨⟨Int.natCast_nonneg _,le_pow (b := 32) (Nat.xor_lt_two_pow (tn_lt (rotl_lt (row_lt bl t _))) (tn_lt (rotl_lt (row_lt bl t _))))⟩,⟨Int.natCast_nonneg _,le_pow (b := 32) (Nat.lt_of_le_of_lt (Nat.div_le_self _ _) (row_lt bl t _))⟩⟩,trivial⟩ ?_
     refine CfgL.done rfl ?_
     refine Cfg.begA rfl (by kernel_rfl) [(r,.cells (wv (List.replicate 64 0)) 171 (0,0))] ?_
     refine CfgA.pure [0,1,2,3,4,7,9,10,11] [] (some [2,3,5,85,86,89,92,96]) (l' := #[true,true,true,true,true,false,false,true,false,true,true,true,false,false,false,false]) (by kernel_rfl) (by kernel_rfl) (.cons _ (.cons_cons _ .slnil)) 7 rfl (Γ' := [(96,[],.pointer (some ⟨xw,(((t : Int) - 16)).toNat,none⟩)),(92,[],.int .u32 (((((((rotl (rg (row bl t) (t - 15)) 33554432 128 : Int)).toNat ^^^ ((rotl (rg (row bl t) (t - 15)) 16384 262144 : Int)).toNat : Nat) : Int)).toNat ^^^ (((rg (row bl t) (t - 15) : Int) / 8)).toNat : Nat) : Int)),(89,[],.pointer (some ⟨xw,(((t : Int) - 7)).toNat,none⟩)),(86,[],.int .u32 (((((((rotl (rg (row bl t) (t - 2)) 32768 131072 : Int)).toNat ^^^ ((rotl (rg (row bl t) (t - 2)) 8192 524288 : Int)).toNat : Nat) : Int)).toNat ^^^ (((rg (row bl t) (t - 2) : Int) / 1024)).toNat : Nat) : Int)),(85,[],.int .i64 (t : Int)),(5,[],.int .i64 (t : Int)),(3,[],.pointer (some ⟨xw,0,none⟩)),(2,[],.pointer (some ⟨r,0,none⟩))]) (nd := (fun _ => [((-9223372036854775808 : Int) ≤ ((t : Int) - 7) ∧ ((t : Int) - 7) ≤ 9223372036854775807),(0 ≤ ((t : Int) - 7) ∧ ((t : Int) - 7) < (64 : Int)),((-9223372036854775808 : Int) ≤ ((t : Int) - 16) ∧ ((t : Int) - 16) ≤ 9223372036854775807),(0 ≤ ((t : Int) - 16) ∧ ((t : Int) - 16) < (64 : Int))])) (fun _ => by kernel_rfl) ⟨(by omega),(by omega),(by omega),(by omega),trivial⟩ ?_
     refine CfgA.two 5 12 (by kernel_rfl) (fuel' := 6) rfl ?_ ?_
     ·
      refine CfgI.eff (o := _) rfl (by kernel_rfl) (by kernel_rfl) (Eff.quiet (raw := false) (orc := some (.int .u32 (rg (row bl t) (t - 7) : Int))) (v := .int .u32 (rg (row bl t) (t - 7) : Int)) (nd := (fun S => [(∀ w1,S w1 → w1.cell? ⟨xw,(((t : Int) - 7)).toNat,none⟩ = some (.int .u32 (rg (row bl t) (t - 7) : Int)))])) (fun _ => by kernel_rfl) ⟨(fun w1 h => h.ocell 0 rfl (by rw [show (((t : Int) - 7)).toNat = (t - 7) by omega]; exact wv_get (row_len bl t) (by omega))),trivial⟩ (by kernel_rfl)) (fun _ _ => (.cons _ (.cons_cons _ .slnil))) ?_
      rintro ⟨⟩ -
      refine CfgA.pure [6,8] [] (some [2,3,5,85,93,96]) (l' := tF 12 4) (by kernel_rfl) (by kernel_rfl) (.cons _ (.cons_cons _ .slnil)) 4 rfl (Γ' := [(93,[],.int .u32 (((((((((((rotl (rg (row bl t) (t - 2)) 32768 131072 : Int)).toNat ^^^ ((rotl (rg (row bl t) (t - 2)) 8192 524288 : Int)).toNat : Nat) : Int)).toNat ^^^ (((rg (row bl t) (t - 2) : Int) / 1024)).toNat : Nat) : Int) + (rg (row bl t) (t - 7) : Int)) % 4294967296) + (((((((rotl (rg (row bl t) (t - 15)) 33554432 128 : Int)).toNat ^^^ ((rotl (rg (row bl t) (t - 15)) 16384 262144 : Int)).toNat : Nat) : Int)).toNat ^^^ (((rg (row bl t) (t - 15) : Int) / 8)).toNat : Nat) : Int)) % 4294967296)),(96,[],.pointer (some ⟨xw,(((t : Int) - 16)).toNat,none⟩)),(85,[],.int .i64 (t : Int)),(5,[],.int .i64 (t : Int)),(3,[],.pointer (some ⟨xw,0,none⟩)),(2,[],.pointer (some ⟨r,0,none⟩))]) (nd := (fun _ => [])) (fun _ => by kernel_rfl) trivial ?_
      refine CfgA.eff 12 (o := _) rfl (by kernel_rfl) (fuel' := 3) rfl (by kernel_rfl) (by kernel_rfl) (Eff.quiet (raw := false) (orc := some (.int .u32 (rg (row bl t) (t - 16) : Int))) (v := .int .u32 (rg (row bl t) (t - 16) : Int)) (nd := (fun S => [(∀ w1,S w1 → w1.cell? ⟨xw,(((t : Int) - 16)).toNat,none⟩ = some (.int .u32 (rg (row bl t) (t - 16) : Int)))])) (fun _ => by kernel_rfl) ⟨(fun w1 h => h.ocell 0 rfl (by rw [show (((t : Int) - 16)).toNat = (t - 16) by omega]; exact wv_get (row_len bl t) (by omega))),trivial⟩ (by kernel_rfl)) (fun _ _ => (.cons _ (.cons_cons _ .slnil))) ?_
      rintro ⟨⟩ -
      refine CfgA.pure [13,14] [] (some [2,3,5,98,99]) (l' := tF 15 1) (by kernel_rfl) (by kernel_rfl) (.cons _ (.cons_cons _ .slnil)) 1 rfl (Γ' := [(99,[],.pointer (some ⟨xw,t,none⟩)),(98,[],.int .u32 (((((((((((((rotl (rg (row bl t) (t - 2)) 32768 131072 : Int)).toNat ^^^ ((rotl (rg (row bl t) (t - 2)) 8192 524288 : Int)).toNat : Nat) : Int)).toNat ^^^ (((rg (row bl t) (t - 2) : Int) / 1024)).toNat : Nat) : Int) + (rg (row bl t) (t - 7) : Int)) % 4294967296) + (((((((rotl (rg (row bl t) (t - 15)) 33554432 128 : Int)).toNat ^^^ ((rotl (rg (row bl t) (t - 15)) 16384 262144 : Int)).toNat : Nat) : Int)).toNat ^^^ (((rg (row bl t) (t - 15) : Int) / 8)).toNat : Nat) : Int)) % 4294967296) + (rg (row bl t) (t - 16) : Int)) % 4294967296)),(5,[],.int .i64 (t : Int)),(3,[],.pointer (some ⟨xw,0,none⟩)),(2,[],.pointer (some ⟨r,0,none⟩))]) (nd := (fun _ => [(0 ≤ (t : Int) ∧ (t : Int) < (64 : Int))])) (fun _ => by kernel_rfl) ⟨(by omega),trivial⟩ ?_
      refine CfgA.eff 15 (o := _) rfl (by kernel_rfl) (fuel' := 0) rfl (by kernel_rfl) (by kernel_rfl) (Eff.store1 (b := xw) (off := t) (v := .int .u32 (((((((((((((rotl (rg (row bl t) (t - 2)) 32768 131072 : Int)).toNat ^^^ ((rotl (rg (row bl t) (t - 2)) 8192 524288 : Int)).toNat : Nat) : Int)).toNat ^^^ (((rg (row bl t) (t - 2) : Int) / 1024)).toNat : Nat) : Int) + (rg (row bl t) (t - 7) : Int)) % 4294967296) + (((((((rotl (rg (row bl t) (t - 15)) 33554432 128 : Int)).toNat ^^^ ((rotl (rg (row bl t) (t - 15)) 16384 262144 : Int)).toNat : Nat) : Int)).toNat ^^^ (((rg (row bl t) (t - 15) : Int) / 8)).toNat : Nat) : Int)) % 4294967296) + (rg (row bl t) (t - 16) : Int)) % 4294967296)) rfl (by kernel_rfl) (by kernel_rfl) rfl (by kernel_rfl) 0 (cs := (wv (row bl t))) (e := 171) (by kernel_rfl) (by rw [wsize]; omega)) (fun _ _ => (.cons _ (.cons_cons _ .slnil))) ?_
      rintro ⟨⟩ -
      refine CfgA.done (by kernel_rfl) ?_
      refine Conv.cfg (Γ' := [(5,[],.int .i64 (t : Int)),(3,[],.pointer (some ⟨xw,0,none⟩)),(2,[],.pointer (some ⟨r,0,none⟩))]) (Conv.mk (by kernel_rfl)) ?_
      refine Cfg.reg rfl [2,3,5] [] (Γ' := [(5,[],.int .i64 ((t : Int) + 1)),(3,[],.pointer (some ⟨xw,0,none⟩)),(2,[],.pointer (some ⟨r,0,none⟩))]) (nd := (fun _ => [((-9223372036854775808 : Int) ≤ ((t : Int) + 1) ∧ ((t : Int) + 1) ≤ 9223372036854775807)])) (fun _ => by kernel_rfl) ⟨(by omega),trivial⟩ ?_
      refine Cfg.setO (congrArg (fun (xq : Array Value) => ([(xw,.cells xq 171 (0,0)),(r,.cells (wv (List.replicate 64 0)) 171 (0,0))] : List (Nat × Obj))) (show _ = (wv (row bl (t + 1))) from row_step bl t (wnext_hi (by omega) (wn_eq _ _ _ _)))) ?_
      refine Cfg.again rfl (t + 1) ⟨by omega,by omega⟩ (by show 64 - (t + 1) < 64 - t; omega) (Conv.mk (by kernel_rfl)) (.cons_cons _ (.cons_cons _ .slnil))
     ·
      refine CfgI.eff (o := _) rfl (by kernel_rfl) (by kernel_rfl) (Eff.quiet (raw := false) (orc := some (.int .u32 (rg (row bl t) (t - 16) : Int))) (v := .int .u32 (rg (row bl t) (t - 16) : Int)) (nd := (fun S => [(∀ w1,S w1 → w1.cell? ⟨xw,(((t : Int) - 16)).toNat,none⟩ = some (.int .u32 (rg (row bl t) (t - 16) : Int)))])) (fun _ => by kernel_rfl) ⟨(fun w1 h => h.ocell 0 rfl (by rw [show (((t : Int) - 16)).toNat = (t - 16) by omega]; exact wv_get (row_len bl t) (by omega))),trivial⟩ (by kernel_rfl)) (fun _ _ => (.cons _ (.cons_cons _ .slnil))) ?_
      rintro ⟨⟩ -
      refine CfgA.eff 5 (o := _) rfl (by kernel_rfl) (fuel' := 5) rfl (by kernel_rfl) (by kernel_rfl) (Eff.quiet (raw := false) (orc := some (.int .u32 (rg (row bl t) (t - 7) : Int))) (v := .int .u32 (rg (row bl t) (t - 7) : Int)) (nd := (fun S => [(∀ w1,S w1 → w1.cell? ⟨xw,(((t : Int) - 7)).toNat,none⟩ = some (.int .u32 (rg (row bl t) (t - 7) : Int)))])) (fun _ => by kernel_rfl) ⟨(fun w1 h => h.ocell 0 rfl (by rw [show (((t : Int) - 7)).toNat = (t - 7) by omega]; exact wv_get (row_len bl t) (by omega))),trivial⟩ (by kernel_rfl)) (fun _ _ => (.cons _ (.cons_cons _ .slnil))) ?_
      rintro ⟨⟩ -
      refine CfgA.pure [6,8,13,14] [] (some [2,3,5,98,99]) (l' := tF 15 1) (by kernel_rfl) (by kernel_rfl) (.cons _ (.cons_cons _ .slnil)) 1 rfl (Γ' := [(99,[],.pointer (some ⟨xw,t,none⟩)),(98,[],.int .u32 (((((((((((((rotl (rg (row bl t) (t - 2)) 32768 131072 : Int)).toNat ^^^ ((rotl (rg (row bl t) (t - 2)) 8192 524288 : Int)).toNat : Nat) : Int)).toNat ^^^ (((rg (row bl t) (t - 2) : Int) / 1024)).toNat : Nat) : Int) + (rg (row bl t) (t - 7) : Int)) % 4294967296) + (((((((rotl (rg (row bl t) (t - 15)) 33554432 128 : Int)).toNat ^^^ ((rotl (rg (row bl t) (t - 15)) 16384 262144 : Int)).toNat : Nat) : Int)).toNat ^^^ (((rg (row bl t) (t - 15) : Int) / 8)).toNat : Nat) : Int)) % 4294967296) + (rg (row bl t) (t - 16) : Int)) % 4294967296)),(5,[],.int .i64 (t : Int)),(3,[],.pointer (some ⟨xw,0,none⟩)),(2,[],.pointer (some ⟨r,0,none⟩))]) (nd := (fun _ => [(0 ≤ (t : Int) ∧ (t : Int) < (64 : Int))])) (fun _ => by kernel_rfl) ⟨(by omega),trivial⟩ ?_
      refine CfgA.eff 15 (o := _) rfl (by kernel_rfl) (fuel' := 0) rfl (by kernel_rfl) (by kernel_rfl) (Eff.store1 (b := xw) (off := t) (v := .int .u32 (((((((((((((rotl (rg (row bl t) (t - 2)) 32768 131072 : Int)).toNat ^^^ ((rotl (rg (row bl t) (t - 2)) 8192 524288 : Int)).toNat : Nat) : Int)).toNat ^^^ (((rg (row bl t) (t - 2) : Int) / 1024)).toNat : Nat) : Int) + (rg (row bl t) (t - 7) : Int)) % 4294967296) + (((((((rotl (rg (row bl t) (t - 15)) 33554432 128 : Int)).toNat ^^^ ((rotl (rg (row bl t) (t - 15)) 16384 262144 : Int)).toNat : Nat) : Int)).toNat ^^^ (((rg (row bl t) (t - 15) : Int) / 8)).toNat : Nat) : Int)) % 4294967296) + (rg (row bl t) (t - 16) : Int)) % 4294967296)) rfl (by kernel_rfl) (by kernel_rfl) rfl (by kernel_rfl) 0 (cs := (wv (row bl t))) (e := 171) (by kernel_rfl) (by rw [wsize]; omega)) (fun _ _ => (.cons _ (.cons_cons _ .slnil))) ?_
      rintro ⟨⟩ -
      refine CfgA.done (by kernel_rfl) ?_
      refine Conv.cfg (Γ' := [(5,[],.int .i64 (t : Int)),(3,[],.pointer (some ⟨xw,0,none⟩)),(2,[],.pointer (some ⟨r,0,none⟩))]) (Conv.mk (by kernel_rfl)) ?_
      refine Cfg.reg rfl [2,3,5] [] (Γ' := [(5,[],.int .i64 ((t : Int) + 1)),(3,[],.pointer (some ⟨xw,0,none⟩)),(2,[],.pointer (some ⟨r,0,none⟩))]) (nd := (fun _ => [((-9223372036854775808 : Int) ≤ ((t : Int) + 1) ∧ ((t : Int) + 1) ≤ 9223372036854775807)])) (fun _ => by kernel_rfl) ⟨(by omega),trivial⟩ ?_
      refine Cfg.setO (congrArg (fun (xq : Array Value) => ([(xw,.cells xq 171 (0,0)),(r,.cells (wv (List.replicate 64 0)) 171 (0,0))] : List (Nat × Obj))) (show _ = (wv (row bl (t + 1))) from row_step bl t (wnext_hi (by omega) (wn_eq _ _ _ _)))) ?_
      refine Cfg.again rfl (t + 1) ⟨by omega,by omega⟩ (by show 64 - (t + 1) < 64 - t; omega) (Conv.mk (by kernel_rfl)) (.cons_cons _ (.cons_cons _ .slnil))
    ·have c2 : (¬ ((t : Int) < (64 : Int))) := (of_decide_eq_false c2r)
     refine Cfg.begL rfl ?_
     refine CfgL.pure 1 [(0,false,some (.agg (wv (row bl t))))] (some [2,100]) (Γ' := [(100,[],.agg (wv (row bl t))),(2,[],.pointer (some ⟨r,0,none⟩))]) (nd := (fun S => [(∀ w1,S w1 → (loadVar 171 ⟨xw,0,none⟩).run Tryz.prog w1 = .ok (.agg (wv (row bl t))) w1)])) (by kernel_rfl) (fun _ => by kernel_rfl) ⟨(fun w1 h => h.oload 0 rfl Tryz.underlying171 rfl (n := 64) (by kernel_rfl) (wsize bl t)),trivial⟩ ?_
     refine CfgL.eff (o := _) rfl (by kernel_rfl) (by kernel_rfl) (Eff.storeN (b := r) (off := 0) (vs := (wv (row bl t))) (n := 64) rfl (by kernel_rfl) (by kernel_rfl) (by kernel_rfl) (wsize bl t) (all_wv _) 1 (cs := (wv (List.replicate 64 0))) (e := 171) (by kernel_rfl) (by rw [show wv (List.replicate 64 0) = wv (row bl 0) from rfl,wsize]; omega)) ?_
     rintro ⟨⟩ -
     refine CfgL.setO (congrArg (fun (xq : Array Value) => ([(xw,.cells (wv (row bl t)) 171 (0,0)),(r,.cells xq 171 (0,0))] : List (Nat × Obj))) (show _ = (wv (row bl t)) from spl_all ((wsize bl t).trans (wsize bl 0).symm))) ?_
     refine CfgL.done rfl ?_
     refine Conv.cfg (Γ' := [(2,[],.pointer (some ⟨r,0,none⟩))]) (Conv.mk (by kernel_rfl)) ?_
     refine Cfg.ret rfl (rs := [.cell 2 171]) rfl [.agg (wv (row bl t))] ⟨⟨_,by kernel_rfl,(fun w1 h => h.oload 1 rfl Tryz.underlying171 rfl (n := 64) (by kernel_rfl) (wsize bl t))⟩,trivial⟩ (fun w1 hp => ?_)
     obtain rfl : t = 64 := by omega
     exact ⟨rfl,hp.ext⟩
end Go.Proofs.YtojefiolcedigaaGreatDoor
namespace Go.Proofs.YtojefiolcedigaaGreatDoor
open K
set_option linter.unusedVariables false
set_option maxRecDepth 100000 in
theorem shaMix (b : Nat) (hs : List Nat) (bl : List UInt8) (held total : Nat) {kt : Array Value} {t0 : TypeId} {fr0 : Nat × Nat} (w : World) (hh : hs.length = 8) (hb : bl.length = 64) (hlt : ∀ i,rg hs i < 2 ^ 32) (hR : Has w [(0,.cells kt t0 fr0)]) (hS : w.heap[b]? = some (.cells (stC hs bl held total) 151 (0,0))) (hne : b ≠ 0) (hK : KT kt := by assumption) :
  Calls Tryz.prog 103 #[.pointer (some ⟨b,0,none⟩)] w fun e w' => e = .returned (.tuple #[]) ∧ Ext [b] w w' ∧ w'.heap[b]? = some (.cells (stC (mixF hs bl) bl held total) 151 (0,0)) := by
 refine enter (vs := [.pointer (some ⟨b,0,none⟩)]) [b] [(0,.cells kt t0 fr0)] [(b,.cells (stC hs bl held total) 151 (0,0))] Tryz.func103 rfl (by kernel_rfl) (HP.startM hR hS (by simpa using hne)) ?_
 refine Cfg.begL rfl ?_
 refine CfgL.pure 1 [] none (Γ' := [(20,[],.pointer (some ⟨b,0,none⟩)),(0,[],.pointer (some ⟨b,0,none⟩))]) (nd := (fun _ => [])) (by kernel_rfl) (fun _ => by kernel_rfl) trivial ?_
 refine CfgL.eff (o := _) rfl (by kernel_rfl) (by kernel_rfl) (Eff.callA (vs := [.pointer (some ⟨b,0,none⟩)]) (.agg (wv (row bl 64))) rfl Tryz.func127 rfl rfl (by kernel_rfl) (fun w1 h => words b hs bl held total w1 hh hb (h.has (fun e he => he)))) ?_
 rintro ⟨⟩ -
 refine CfgL.eff (o := _) rfl (by kernel_rfl) (by kernel_rfl) (Eff.alloc (z := (.agg (wv (List.replicate 64 0)))) rfl (by kernel_rfl)) ?_
 rintro xw ⟨hxw,nxw⟩
 refine CfgL.eff (o := _) rfl (by kernel_rfl) (by kernel_rfl) (Eff.storeN (b := xw) (off := 0) (vs := (wv (row bl 64))) (n := 64) rfl (by kernel_rfl) (by kernel_rfl) (by kernel_rfl) (wsize bl 64) (all_wv _) 0 (cs := (wv (List.replicate 64 0))) (e := 171) (by kernel_rfl) (by rw [show wv (List.replicate 64 0) = wv (row bl 0) from rfl,wsize]; omega)) ?_
 rintro ⟨⟩ -
 refine CfgL.setO (congrArg (fun (xq : Array Value) => ([(xw,.cells xq 171 (0,0)),(b,.cells (stC hs bl held total) 151 (0,0))] : List (Nat × Obj))) (show _ = (wv (row bl 64)) from spl_all ((wsize bl 64).trans (wsize bl 0).symm))) ?_
 refine CfgL.done rfl ?_
 refine Conv.cfg (Γ' := [(2,[],.pointer (some ⟨xw,0,none⟩)),(0,[],.pointer (some ⟨b,0,none⟩))]) (Conv.mk (by kernel_rfl)) ?_
 refine Cfg.regD rfl (by kernel_rfl) [0,2,3,4,5,6] [dZ,dZ,dZ,dZ,(0,false,some (.int .u32 (rg hs 0 : Int))),dZ,dZ,dZ,dZ,(0,false,some (.int .u32 (rg hs 1 : Int))),dZ,dZ,dZ,dZ,(0,false,some (.int .u32 (rg hs 2 : Int))),dZ,dZ,dZ,dZ,(0,false,some (.int .u32 (rg hs 3 : Int)))] (Γ' := [(6,[],.int .u32 (rg hs 3 : Int)),(5,[],.int .u32 (rg hs 2 : Int)),(4,[],.int .u32 (rg hs 1 : Int)),(3,[],.int .u32 (rg hs 0 : Int)),(2,[],.pointer (some ⟨xw,0,none⟩)),(0,[],.pointer (some ⟨b,0,none⟩))]) (nd := (fun S => [(0 ≤ (0 : Int) ∧ (0 : Int) < (8 : Int)),(∀ w1,S w1 → w1.cell? ⟨b,0,none⟩ = some (.int .u32 (rg hs 0 : Int))),(0 ≤ (1 : Int) ∧ (1 : Int) < (8 : Int)),(∀ w1,S w1 → w1.cell? ⟨b,1,none⟩ = some (.int .u32 (rg hs 1 : Int))),(0 ≤ (2 : Int) ∧ (2 : Int) < (8 : Int)),(∀ w1,S w1 → w1.cell? ⟨b,2,none⟩ = some (.int .u32 (rg hs 2 : Int))),(0 ≤ (3 : Int) ∧ (3 : Int) < (8 : Int)),(∀ w1,S w1 → w1.cell? ⟨b,3,none⟩ = some (.int .u32 (rg hs 3 : Int)))])) (by kernel_rfl) (by kernel_rfl) (fun _ => by kernel_rfl) ⟨(by omega),(fun w1 h => h.ocell 1 rfl (st_sum hh (by omega))),(by omega),(fun w1 h => h.ocell 1 rfl (st_sum hh (by omega))),(by omega),(fun w1 h => h.ocell 1 rfl (st_sum hh (by omega))),(by omega),(fun w1 h => h.ocell 1 rfl (st_sum hh (by omega))),trivial⟩ ?_
 refine Cfg.regD rfl (by kernel_rfl) [0,2,3,4,5,6,7,8,9,10] [dZ,dZ,dZ,dZ,(0,false,some (.int .u32 (rg hs 4 : Int))),dZ,dZ,dZ,dZ,(0,false,some (.int .u32 (rg hs 5 : Int))),dZ,dZ,dZ,dZ,(0,false,some (.int .u32 (rg hs 6 : Int))),dZ,dZ,dZ,dZ,(0,false,some (.int .u32 (rg hs 7 : Int)))] (Γ' := [(10,[],.int .u32 (rg hs 7 : Int)),(9,[],.int .u32 (rg hs 6 : Int)),(8,[],.int .u32 (rg hs 5 : Int)),(7,[],.int .u32 (rg hs 4 : Int)),(6,[],.int .u32 (rg hs 3 : Int)),(5,[],.int .u32 (rg hs 2 : Int)),(4,[],.int .u32 (rg hs 1 : Int)),(3,[],.int .u32 (rg hs 0 : Int)),(2,[],.pointer (some ⟨xw,0,none⟩)),(0,[],.pointer (some ⟨b,0,none⟩))]) (nd := (fun S => [(0 ≤ (4 : Int) ∧ (4 : Int) < (8 : Int)),(∀ w1,S w1 → w1.cell? ⟨b,4,none⟩ = some (.int .u32 (rg hs 4 : Int))),(0 ≤ (5 : Int) ∧ (5 : Int) < (8 : Int)),(∀ w1,S w1 → w1.cell? ⟨b,5,none⟩ = some (.int .u32 (rg hs 5 : Int))),(0 ≤ (6 : Int) ∧ (6 : Int) < (8 : Int)),(∀ w1,S w1 → w1.cell? ⟨b,6,none⟩ = some (.int .u32 (rg hs 6 : Int))),(0 ≤ (7 : Int) ∧ (7 : Int) < (8 : Int)),(∀ w1,S w1 → w1.cell? ⟨b,7,none⟩ = some (.int .u32 (rg hs 7 : Int)))])) (by kernel_rfl) (by kernel_rfl) (fun _ => by kernel_rfl) ⟨(by omega),(fun w1 h => h.ocell 1 rfl (st_sum hh (by omega))),(by omega),(fun w1 h => h.ocell 1 rfl (st_sum hh (by omega))),(by omega),(fun w1 h => h.ocell 1 rfl (st_sum hh (by omega))),(by omega),(fun w1 h => h.ocell 1 rfl (st_sum hh (by omega))),trivial⟩ ?_
 refine Cfg.reg rfl [0,2,3,4,5,6,7,8,9,10,62] [] (Γ' := [(62,[],.int .i64 0),(10,[],.int .u32 (rg hs 7 : Int)),(9,[],.int .u32 (rg hs 6 : Int)),(8,[],.int .u32 (rg hs 5 : Int)),(7,[],.int .u32 (rg hs 4 : Int)),(6,[],.int .u32 (rg hs 3 : Int)),(5,[],.int .u32 (rg hs 2 : Int)),(4,[],.int .u32 (rg hs 1 : Int)),(3,[],.int .u32 (rg hs 0 : Int)),(2,[],.pointer (some ⟨xw,0,none⟩)),(0,[],.pointer (some ⟨b,0,none⟩))]) (nd := (fun _ => [])) (fun _ => by kernel_rfl) trivial ?_
 refine Cfg.loop rfl (ι := Nat) (fun (t : Nat) => [(62,[],.int .i64 (t : Int)),(10,[],.int .u32 ((rv hs bl t).h : Int)),(9,[],.int .u32 ((rv hs bl t).g : Int)),(8,[],.int .u32 ((rv hs bl t).f : Int)),(7,[],.int .u32 ((rv hs bl t).e : Int)),(6,[],.int .u32 ((rv hs bl t).d : Int)),(5,[],.int .u32 ((rv hs bl t).c : Int)),(4,[],.int .u32 ((rv hs bl t).b : Int)),(3,[],.int .u32 ((rv hs bl t).a : Int)),(2,[],.pointer (some ⟨xw,0,none⟩)),(0,[],.pointer (some ⟨b,0,none⟩))]) (fun (t : Nat) => [(xw,.cells (wv (row bl 64)) 171 (0,0)),(b,.cells (stC hs bl held total) 151 (0,0))]) (fun (t : Nat) => (t ≤ 64)) (fun (t : Nat) => 64 - t) 0 ?_ (Conv.mk (by kernel_rfl)) (.cons_cons _ (.cons_cons _ .slnil)) ?_
 ·exact Nat.zero_le _
 ·rintro t ht
  have ok := rv_ok hlt bl t
  refine Cfg.reg rfl [0,2,3,4,5,6,7,8,9,10,62,63] [] (Γ' := [(63,[],.bool (decide ((t : Int) < (64 : Int)))),(62,[],.int .i64 (t : Int)),(10,[],.int .u32 ((rv hs bl t).h : Int)),(9,[],.int .u32 ((rv hs bl t).g : Int)),(8,[],.int .u32 ((rv hs bl t).f : Int)),(7,[],.int .u32 ((rv hs bl t).e : Int)),(6,[],.int .u32 ((rv hs bl t).d : Int)),(5,[],.int .u32 ((rv hs bl t).c : Int)),(4,[],.int .u32 ((rv hs bl t).b : Int)),(3,[],.int .u32 ((rv hs bl t).a : Int)),(2,[],.pointer (some ⟨xw,0,none⟩)),(0,[],.pointer (some ⟨b,0,none⟩))]) (nd := (fun _ => [])) (fun _ => by kernel_rfl) trivial ?_
  refine Cfg.cond rfl (b := (decide ((t : Int) < (64 : Int)))) (by kernel_rfl) (fun c1r => ?_) (fun c1r => ?_)
  ·have c1 : ((t : Int) < (64 : Int)) := (of_decide_eq_true c1r)
   refine Cfg.reg rfl [0,2,3,4,5,6,7,8,9,10,11,62] [] (Γ' := [(11,[],.int .i64 (t : Int)),(62,[],.int .i64 (t : Int)),(10,[],.int .u32 ((rv hs bl t).h : Int)),(9,[],.int .u32 ((rv hs bl t).g : Int)),(8,[],.int .u32 ((rv hs bl t).f : Int)),(7,[],.int .u32 ((rv hs bl t).e : Int)),(6,[],.int .u32 ((rv hs bl t).d : Int)),(5,[],.int .u32 ((rv hs bl t).c : Int)),(4,[],.int .u32 ((rv hs bl t).b : Int)),(3,[],.int .u32 ((rv hs bl t).a : Int)),(2,[],.pointer (some ⟨xw,0,none⟩)),(0,[],.pointer (some ⟨b,0,none⟩))]) (nd := (fun _ => [])) (fun _ => by kernel_rfl) trivial ?_
   refine Cfg.begL rfl ?_
   refine CfgL.pure 1 [] none (Γ' := [(65,[],.int .u32 ((rv hs bl t).e : Int)),(11,[],.int .i64 (t : Int)),(62,[],.int .i64 (t : Int)),(10,[],.int .u32 ((rv hs bl t).h : Int)),(9,[],.int .u32 ((rv hs bl t).g : Int)),(8,[],.int .u32 ((rv hs bl t).f : Int)),(7,[],.int .u32 ((rv hs bl t).e : Int)),(6,[],.int .u32 ((rv hs bl t).d : Int)),(5,[],.int .u32 ((rv hs bl t).c : Int)),(4,[],.int .u32 ((rv hs bl t).b : Int)),(3,[],.int .u32 ((rv hs bl t).a : Int)),(2,[],.pointer (some ⟨xw,0,none⟩)),(0,[],.pointer (some ⟨b,0,none⟩))]) (nd := (fun _ => [])) (by kernel_rfl) (fun _ => by kernel_rfl) trivial ?_
   refine CfgL.eff (o := _) rfl (by kernel_rfl) (by kernel_rfl) (Eff.callA (vs := [.int .u32 ((rv hs bl t).e : Int),.int .i64 (-6)]) (.int .u32 (rotl ((rv hs bl t).e) 67108864 64 : Int)) rfl Tryz.func128 rfl rfl (by kernel_rfl) (fun w1 _ => rot26 _ w1 ok.e)) ?_
   rintro ⟨⟩ -
   refine CfgL.pure 1 [] (some [0,2,3,4,5,6,7,8,9,10,11,62,66,67]) (Γ' := [(67,[],.int .u32 ((rv hs bl t).e : Int)),(66,[],.int .u32 (rotl ((rv hs bl t).e) 67108864 64 : Int)),(11,[],.int .i64 (t : Int)),(62,[],.int .i64 (t : Int)),(10,[],.int .u32 ((rv hs bl t).h : Int)),(9,[],.int .u32 ((rv hs bl t).g : Int)),(8,[],.int .u32 ((rv hs bl t).f : Int)),(7,[],.int .u32 ((rv hs bl t).e : Int)),(6,[],.int .u32 ((rv hs bl t).d : Int)),(5,[],.int .u32 ((rv hs bl t).c : Int)),(4,[],.int .u32 ((rv hs bl t).b : Int)),(3,[],.int .u32 ((rv hs bl t).a : Int)),(2,[],.pointer (some ⟨xw,0,none⟩)),(0,[],.pointer (some ⟨b,0,none⟩))]) (nd := (fun _ => [])) (by kernel_rfl) (fun _ => by kernel_rfl) trivial ?_
   refine CfgL.eff (o := _) rfl (by kernel_rfl) (by kernel_rfl) (Eff.callA (vs := [.int .u32 ((rv hs bl t).e : Int),.int .i64 (-11)]) (.int .u32 (rotl ((rv hs bl t).e) 2097152 2048 : Int)) rfl Tryz.func128 rfl rfl (by kernel_rfl) (fun w1 _ => rot21 _ w1 ok.e)) ?_
   rintro ⟨⟩ -
   refine CfgL.pure 2 [] (some [0,2,3,4,5,6,7,8,9,10,11,62,69,70]) (Γ' := [(70,[],.int .u32 ((rv hs bl t).e : Int)),(69,[],.int .u32 ((((rotl ((rv hs bl t).e) 67108864 64 : Int)).toNat ^^^ ((rotl ((rv hs bl t).e) 2097152 2048 : Int)).toNat : Nat) : Int)),(11,[],.int .i64 (t : Int)),(62,[],.int .i64 (t : Int)),(10,[],.int .u32 ((rv hs bl t).h : Int)),(9,[],.int .u32 ((rv hs bl t).g : Int)),(8,[],.int .u32 ((rv hs bl t).f : Int)),(7,[],.int .u32 ((rv hs bl t).e : Int)),(6,[],.int .u32 ((rv hs bl t).d : Int)),(5,[],.int .u32 ((rv hs bl t).c : Int)),(4,[],.int .u32 ((rv hs bl t).b : Int)),(3,[],.int .u32 ((rv hs bl t).a : Int)),(2,[],.pointer (some ⟨xw,0,none⟩)),(0,[],.pointer (some ⟨b,0,none⟩))]) (nd := (fun _ => [((0 ≤ (rotl ((rv hs bl t).e) 67108864 64 : Int) ∧ (rotl ((rv hs bl t).e) 67108864 64 : Int) ≤ 4294967295) ∧ 0 ≤ (rotl ((rv hs bl t).e) 2097152 2048 : Int) ∧ (rotl ((rv hs bl t).e) 2097152 2048 : Int) ≤ 4294967295)])) (by kernel_rfl) (fun _ => by kernel_rfl) ⟨⟨⟨Int.natCast_nonneg _,le_pow (b := 32) (rotl_lt ok.e)⟩,⟨Int.natCast_nonneg _,le_pow (b := 32) (rotl_lt ok.e)⟩⟩,trivial⟩ ?_
   refine CfgL.eff (o := _) rfl (by kernel_rfl) (by kernel_rfl) (Eff.callA (vs := [.int .u32 ((rv hs bl t).e : Int),.int .i64 (-25)]) (.int .u32 (rotl ((rv hs bl t).e) 128 33554432 : Int)) rfl Tryz.func128 rfl rfl (by kernel_rfl) (fun w1 _ => rot7 _ w1 ok.e)) ?_
   rintro ⟨⟩ -
   refine CfgL.pure 2 [] (some [0,2,3,4,5,6,7,8,9,10,11,12,62]) (Γ' := [(12,[],.int .u32 (((((((rotl ((rv hs bl t).e) 67108864 64 : Int)).toNat ^^^ ((rotl ((rv hs bl t).e) 2097152 2048 : Int)).toNat : Nat) : Int)).toNat ^^^ ((rotl ((rv hs bl t).e) 128 33554432 : Int)).toNat : Nat) : Int)),(11,[],.int .i64 (t : Int)),(62,[],.int .i64 (t : Int)),(10,[],.int .u32 ((rv hs bl t).h : Int)),(9,[],.int .u32 ((rv hs bl t).g : Int)),(8,[],.int .u32 ((rv hs bl t).f : Int)),(7,[],.int .u32 ((rv hs bl t).e : Int)),(6,[],.int .u32 ((rv hs bl t).d : Int)),(5,[],.int .u32 ((rv hs bl t).c : Int)),(4,[],.int .u32 ((rv hs bl t).b : Int)),(3,[],.int .u32 ((rv hs bl t).a : Int)),(2,[],.pointer (some ⟨xw,0,none⟩)),(0,[],.pointer (some ⟨b,0,none⟩))]) (nd := (fun _ => [((0 ≤ ((((rotl ((rv hs bl t).e) 67108864 64 : Int)).toNat ^^^ ((rotl ((rv hs bl t).e) 2097152 2048 : Int)).toNat : Nat) : Int) ∧ ((((rotl ((rv hs bl t).e) 67108864 64 : Int)).toNat ^^^ ((rotl ((rv hs bl t).e) 2097152 2048 : Int)).toNat : Nat) : Int) ≤ 4294967295) ∧ 0 ≤ (rotl ((rv hs bl t).e) 128 33554432 : Int) ∧ (rotl ((rv hs bl t).e) 128 33554432 : Int) ≤ 4294967295)])) (by kernel_rfl) (fun _ => by kernel_rfl) ⟨⟨⟨Int.natCast_nonneg _,le_pow (b := 32) (Nat.xor_lt_two_pow (tn_lt (rotl_lt ok.e)) (tn_lt (rotl_lt ok.e)))⟩,⟨Int.natCast_nonneg _,le_pow (b := 32) (rotl_lt ok.e)⟩⟩,trivial⟩ ?_
   refine CfgL.done rfl ?_
   refine Cfg.setG (congrArg (fun (xq : Int) => ([(12,[],.int .u32 xq),(11,[],.int .i64 (t : Int)),(62,[],.int .i64 (t : Int)),(10,[],.int .u32 ((rv hs bl t).h : Int)),(9,[],.int .u32 ((rv hs bl t).g : Int)),(8,[],.int .u32 ((rv hs bl t).f : Int)),(7,[],.int .u32 ((rv hs bl t).e : Int)),(6,[],.int .u32 ((rv hs bl t).d : Int)),(5,[],.int .u32 ((rv hs bl t).c : Int)),(4,[],.int .u32 ((rv hs bl t).b : Int)),(3,[],.int .u32 ((rv hs bl t).a : Int)),(2,[],.pointer (some ⟨xw,0,none⟩)),(0,[],.pointer (some ⟨b,0,none⟩))] : Env)) (show _ = (bigE (rv hs bl t).e : Int) from bigE_eq _)) ?_
   refine Cfg.reg rfl [0,2,3,4,5,6,7,8,9,10,11,12,13,62] [] (Γ' := [(13,[],.int .u32 ((((((((rv hs bl t).e : Int)).toNat &&& (((rv hs bl t).f : Int)).toNat : Nat) : Int)).toNat ^^^ ((((((4294967295 ^^^ (((rv hs bl t).e : Int)).toNat : Nat) : Int)).toNat &&& (((rv hs bl t).g : Int)).toNat : Nat) : Int)).toNat : Nat) : Int)),(12,[],.int .u32 (bigE (rv hs bl t).e : Int)),(11,[],.int .i64 (t : Int)),(62,[],.int .i64 (t : Int)),(10,[],.int .u32 ((rv hs bl t).h : Int)),(9,[],.int .u32 ((rv hs bl t).g : Int)),(8,[],.int .u32 ((rv hs bl t).f : Int)),(7,[],.int .u32 ((rv hs bl t).e : Int)),(6,[],.int .u32 ((rv hs bl t).d : Int)),(5,[],.int .u32 ((rv hs bl t).c : Int)),(4,[],.int .u32 ((rv hs bl t).b : Int)),(3,[],.int .u32 ((rv hs bl t).a : Int)),(2,[],.pointer (some ⟨xw,0,none⟩)),(0,[],.pointer (some ⟨b,0,none⟩))]) (nd := (fun _ => [((0 ≤ ((rv hs bl t).e : Int) ∧ ((rv hs bl t).e : Int) ≤ 4294967295) ∧ 0 ≤ ((rv hs bl t).f : Int) ∧ ((rv hs bl t).f : Int) ≤ 4294967295),((0 ≤ (4294967295 : Int) ∧ (4294967295 : Int) ≤ 4294967295) ∧ 0 ≤ ((rv hs bl t).e : Int) ∧ ((rv hs bl t).e : Int) ≤ 4294967295),((0 ≤ ((4294967295 ^^^ (((rv hs bl t).e : Int)).toNat : Nat) : Int) ∧ ((4294967295 ^^^ (((rv hs bl t).e : Int)).toNat : Nat) : Int) ≤ 4294967295) ∧ 0 ≤ ((rv hs bl t).g : Int) ∧ ((rv hs bl t).g : Int) ≤ 4294967295),((0 ≤ (((((rv hs bl t).e : Int)).toNat &&& (((rv hs bl t).f : Int)).toNat : Nat) : Int) ∧ (((((rv hs bl t).e : Int)).toNat &&& (((rv hs bl t).f : Int)).toNat : Nat) : Int) ≤ 4294967295) ∧ 0 ≤ (((((4294967295 ^^^ (((rv hs bl t).e : Int)).toNat : Nat) : Int)).toNat &&& (((rv hs bl t).g : Int)).toNat : Nat) : Int) ∧ (((((4294967295 ^^^ (((rv hs bl t).e : Int)).toNat : Nat) : Int)).toNat &&& (((rv hs bl t).g : Int)).toNat : Nat) : Int) ≤ 4294967295)])) (fun _ => by kernel_rfl) ⟨⟨⟨Int.natCast_nonneg _,le_pow (b := 32) ok.e⟩,⟨Int.natCast_nonneg _,le_pow (b := 32) ok.f⟩⟩,⟨⟨by omega,by omega⟩,⟨Int.natCast_nonneg _,le_pow (b := 32) ok.e⟩⟩,⟨⟨Int.natCast_nonneg _,le_pow (b := 32) (Nat.xor_lt_two_pow (by omega) (tn_lt ok.e))⟩,⟨Int.natCast_nonneg _,le_pow (b := 32) ok.g⟩⟩,⟨⟨Int.natCast_nonneg _,le_pow (b := 32) (Nat.and_lt_two_pow _ (tn_lt ok.f))⟩,⟨Int.natCast_nonneg _,le_pow (b := 32) (Nat.and_lt_two_pow _ (tn_lt ok.g))⟩⟩,trivial⟩ ?_
   refine Cfg.setG (congrArg (fun (xq : Int) => ([(13,[],.int .u32 xq),(12,[],.int .u32 (bigE (rv hs bl t).e : Int)),(11,[],.int .i64 (t : Int)),(62,[],.int .i64 (t : Int)),(10,[],.int .u32 ((rv hs bl t).h : Int)),(9,[],.int .u32 ((rv hs bl t).g : Int)),(8,[],.int .u32 ((rv hs bl t).f : Int)),(7,[],.int .u32 ((rv hs bl t).e : Int)),(6,[],.int .u32 ((rv hs bl t).d : Int)),(5,[],.int .u32 ((rv hs bl t).c : Int)),(4,[],.int .u32 ((rv hs bl t).b : Int)),(3,[],.int .u32 ((rv hs bl t).a : Int)),(2,[],.pointer (some ⟨xw,0,none⟩)),(0,[],.pointer (some ⟨b,0,none⟩))] : Env)) (show _ = (choi (rv hs bl t).e (rv hs bl t).f (rv hs bl t).g : Int) from choi_eq _ _ _)) ?_
   refine Cfg.regD rfl (by kernel_rfl) [0,2,3,4,5,6,7,8,9,14,62] [dZ,dZ,dZ,dZ,dZ,dZ,dZ,(0,false,some (.int .u32 (rg Kc t : Int))),dZ,dZ,dZ,(0,false,some (.int .u32 (rg (row bl 64) t : Int)))] (Γ' := [(14,[],.int .u32 ((((((((((rv hs bl t).h : Int) + (bigE (rv hs bl t).e : Int)) % 4294967296) + (choi (rv hs bl t).e (rv hs bl t).f (rv hs bl t).g : Int)) % 4294967296) + (rg Kc t : Int)) % 4294967296) + (rg (row bl 64) t : Int)) % 4294967296)),(62,[],.int .i64 (t : Int)),(9,[],.int .u32 ((rv hs bl t).g : Int)),(8,[],.int .u32 ((rv hs bl t).f : Int)),(7,[],.int .u32 ((rv hs bl t).e : Int)),(6,[],.int .u32 ((rv hs bl t).d : Int)),(5,[],.int .u32 ((rv hs bl t).c : Int)),(4,[],.int .u32 ((rv hs bl t).b : Int)),(3,[],.int .u32 ((rv hs bl t).a : Int)),(2,[],.pointer (some ⟨xw,0,none⟩)),(0,[],.pointer (some ⟨b,0,none⟩))]) (nd := (fun S => [(0 ≤ (t : Int) ∧ (t : Int) < (64 : Int)),(∀ w1,S w1 → w1.cell? ⟨0,t,none⟩ = some (.int .u32 (rg Kc t : Int))),(0 ≤ (t : Int) ∧ (t : Int) < (64 : Int)),(∀ w1,S w1 → w1.cell? ⟨xw,t,none⟩ = some (.int .u32 (rg (row bl 64) t : Int)))])) (by kernel_rfl) (by kernel_rfl) (fun _ => by kernel_rfl) ⟨(by omega),(fun w1 h => h.rcell 0 rfl (hK _ (by omega))),(by omega),(fun w1 h => h.ocell 0 rfl (wv_get (row_len bl 64) (by omega))),trivial⟩ ?_
   refine Cfg.setG (congrArg (fun (xq : Int) => ([(14,[],.int .u32 xq),(62,[],.int .i64 (t : Int)),(9,[],.int .u32 ((rv hs bl t).g : Int)),(8,[],.int .u32 ((rv hs bl t).f : Int)),(7,[],.int .u32 ((rv hs bl t).e : Int)),(6,[],.int .u32 ((rv hs bl t).d : Int)),(5,[],.int .u32 ((rv hs bl t).c : Int)),(4,[],.int .u32 ((rv hs bl t).b : Int)),(3,[],.int .u32 ((rv hs bl t).a : Int)),(2,[],.pointer (some ⟨xw,0,none⟩)),(0,[],.pointer (some ⟨b,0,none⟩))] : Env)) (show _ = (frst (rg Kc t) (rg (row bl 64) t) (rv hs bl t) : Int) from frst_eq _ _ _)) ?_
   refine Cfg.begL rfl ?_
   refine CfgL.pure 1 [] none (Γ' := [(94,[],.int .u32 ((rv hs bl t).a : Int)),(14,[],.int .u32 (frst (rg Kc t) (rg (row bl 64) t) (rv hs bl t) : Int)),(62,[],.int .i64 (t : Int)),(9,[],.int .u32 ((rv hs bl t).g : Int)),(8,[],.int .u32 ((rv hs bl t).f : Int)),(7,[],.int .u32 ((rv hs bl t).e : Int)),(6,[],.int .u32 ((rv hs bl t).d : Int)),(5,[],.int .u32 ((rv hs bl t).c : Int)),(4,[],.int .u32 ((rv hs bl t).b : Int)),(3,[],.int .u32 ((rv hs bl t).a : Int)),(2,[],.pointer (some ⟨xw,0,none⟩)),(0,[],.pointer (some ⟨b,0,none⟩))]) (nd := (fun _ => [])) (by kernel_rfl) (fun _ => by kernel_rfl) trivial ?_
   refine CfgL.eff (o := _) rfl (by kernel_rfl) (by kernel_rfl) (Eff.callA (vs := [.int .u32 ((rv hs bl t).a : Int),.int .i64 (-2)]) (.int .u32 (rotl ((rv hs bl t).a) 1073741824 4 : Int)) rfl Tryz.func128 rfl rfl (by kernel_rfl) (fun w1 _ => rot30 _ w1 ok.a)) ?_
   rintro ⟨⟩ -
   refine CfgL.pure 1 [] (some [0,2,3,4,5,6,7,8,9,14,62,95,96]) (Γ' := [(96,[],.int .u32 ((rv hs bl t).a : Int)),(95,[],.int .u32 (rotl ((rv hs bl t).a) 1073741824 4 : Int)),(14,[],.int .u32 (frst (rg Kc t) (rg (row bl 64) t) (rv hs bl t) : Int)),(62,[],.int .i64 (t : Int)),(9,[],.int .u32 ((rv hs bl t).g : Int)),(8,[],.int .u32 ((rv hs bl t).f : Int)),(7,[],.int .u32 ((rv hs bl t).e : Int)),(6,[],.int .u32 ((rv hs bl t).d : Int)),(5,[],.int .u32 ((rv hs bl t).c : Int)),(4,[],.int .u32 ((rv hs bl t).b : Int)),(3,[],.int .u32 ((rv hs bl t).a : Int)),(2,[],.pointer (some ⟨xw,0,none⟩)),(0,[],.pointer (some ⟨b,0,none⟩))]) (nd := (fun _ => [])) (by kernel_rfl) (fun _ => by kernel_rfl) trivial ?_
   refine CfgL.eff (o := _) rfl (by kernel_rfl) (by kernel_rfl) (Eff.callA (vs := [.int .u32 ((rv hs bl t).a : Int),.int .i64 (-13)]) (.int .u32 (rotl ((rv hs bl t).a) 524288 8192 : Int)) rfl Tryz.func128 rfl rfl (by kernel_rfl) (fun w1 _ => rot19 _ w1 ok.a)) ?_
   rintro ⟨⟩ -
   refine CfgL.pure 2 [] (some [0,2,3,4,5,6,7,8,9,14,62,98,99]) (Γ' := [(99,[],.int .u32 ((rv hs bl t).a : Int)),(98,[],.int .u32 ((((rotl ((rv hs bl t).a) 1073741824 4 : Int)).toNat ^^^ ((rotl ((rv hs bl t).a) 524288 8192 : Int)).toNat : Nat) : Int)),(14,[],.int .u32 (frst (rg Kc t) (rg (row bl 64) t) (rv hs bl t) : Int)),(62,[],.int .i64 (t : Int)),(9,[],.int .u32 ((rv hs bl t).g : Int)),(8,[],.int .u32 ((rv hs bl t).f : Int)),(7,[],.int .u32 ((rv hs bl t).e : Int)),(6,[],.int .u32 ((rv hs bl t).d : Int)),(5,[],.int .u32 ((rv hs bl t).c : Int)),(4,[],.int .u32 ((rv hs bl t).b : Int)),(3,[],.int .u32 ((rv hs bl t).a : Int)),(2,[],.pointer (some ⟨xw,0,none⟩)),(0,[],.pointer (some ⟨b,0,none⟩))]) (nd := (fun _ => [((0 ≤ (rotl ((rv hs bl t).a) 1073741824 4 : Int) ∧ (rotl ((rv hs bl t).a) 1073741824 4 : Int) ≤ 4294967295) ∧ 0 ≤ (rotl ((rv hs bl t).a) 524288 8192 : Int) ∧ (rotl ((rv hs bl t).a) 524288 8192 : Int) ≤ 4294967295)])) (by kernel_rfl) (fun _ => by kernel_rfl) ⟨⟨⟨Int.natCast_nonneg _,le_pow (b := 32) (rotl_lt ok.a)⟩,⟨Int.natCast_nonneg _,le_pow (b := 32) (rotl_lt ok.a)⟩⟩,trivial⟩ ?_
   refine CfgL.eff (o := _) rfl (by kernel_rfl) (by kernel_rfl) (Eff.callA (vs := [.int .u32 ((rv hs bl t).a : Int),.int .i64 (-22)]) (.int .u32 (rotl ((rv hs bl t).a) 1024 4194304 : Int)) rfl Tryz.func128 rfl rfl (by kernel_rfl) (fun w1 _ => rot10 _ w1 ok.a)) ?_
   rintro ⟨⟩ -
   refine CfgL.pure 2 [] (some [0,2,3,4,5,6,7,8,9,14,15,62]) (Γ' := [(15,[],.int .u32 (((((((rotl ((rv hs bl t).a) 1073741824 4 : Int)).toNat ^^^ ((rotl ((rv hs bl t).a) 524288 8192 : Int)).toNat : Nat) : Int)).toNat ^^^ ((rotl ((rv hs bl t).a) 1024 4194304 : Int)).toNat : Nat) : Int)),(14,[],.int .u32 (frst (rg Kc t) (rg (row bl 64) t) (rv hs bl t) : Int)),(62,[],.int .i64 (t : Int)),(9,[],.int .u32 ((rv hs bl t).g : Int)),(8,[],.int .u32 ((rv hs bl t).f : Int)),(7,[],.int .u32 ((rv hs bl t).e : Int)),(6,[],.int .u32 ((rv hs bl t).d : Int)),(5,[],.int .u32 ((rv hs bl t).c : Int)),(4,[],.int .u32 ((rv hs bl t).b : Int)),(3,[],.int .u32 ((rv hs bl t).a : Int)),(2,[],.pointer (some ⟨xw,0,none⟩)),(0,[],.pointer (some ⟨b,0,none⟩))]) (nd := (fun _ => [((0 ≤ ((((rotl ((rv hs bl t).a) 1073741824 4 : Int)).toNat ^^^ ((rotl ((rv hs bl t).a) 524288 8192 : Int)).toNat : Nat) : Int) ∧ ((((rotl ((rv hs bl t).a) 1073741824 4 : Int)).toNat ^^^ ((rotl ((rv hs bl t).a) 524288 8192 : Int)).toNat : Nat) : Int) ≤ 4294967295) ∧ 0 ≤ (rotl ((rv hs bl t).a) 1024 4194304 : Int) ∧ (rotl ((rv hs bl t).a) 1024 4194304 : Int) ≤ 4294967295)])) (by kernel_rfl) (fun _ => by kernel_rfl) ⟨⟨⟨Int.natCast_nonneg _,le_pow (b := 32) (Nat.xor_lt_two_pow (tn_lt (rotl_lt ok.a)) (tn_lt (rotl_lt ok.a)))⟩,⟨Int.natCast_nonneg _,le_pow (b := 32) (rotl_lt ok.a)⟩⟩,trivial⟩ ?_
   refine CfgL.done rfl ?_
   refine Cfg.setG (congrArg (fun (xq : Int) => ([(15,[],.int .u32 xq),(14,[],.int .u32 (frst (rg Kc t) (rg (row bl 64) t) (rv hs bl t) : Int)),(62,[],.int .i64 (t : Int)),(9,[],.int .u32 ((rv hs bl t).g : Int)),(8,[],.int .u32 ((rv hs bl t).f : Int)),(7,[],.int .u32 ((rv hs bl t).e : Int)),(6,[],.int .u32 ((rv hs bl t).d : Int)),(5,[],.int .u32 ((rv hs bl t).c : Int)),(4,[],.int .u32 ((rv hs bl t).b : Int)),(3,[],.int .u32 ((rv hs bl t).a : Int)),(2,[],.pointer (some ⟨xw,0,none⟩)),(0,[],.pointer (some ⟨b,0,none⟩))] : Env)) (show _ = (bigA (rv hs bl t).a : Int) from bigA_eq _)) ?_
   refine Cfg.reg rfl [0,2,3,4,5,6,7,8,9,14,15,16,62] [] (Γ' := [(16,[],.int .u32 (((((((((((rv hs bl t).a : Int)).toNat &&& (((rv hs bl t).b : Int)).toNat : Nat) : Int)).toNat ^^^ ((((((rv hs bl t).a : Int)).toNat &&& (((rv hs bl t).c : Int)).toNat : Nat) : Int)).toNat : Nat) : Int)).toNat ^^^ ((((((rv hs bl t).b : Int)).toNat &&& (((rv hs bl t).c : Int)).toNat : Nat) : Int)).toNat : Nat) : Int)),(15,[],.int .u32 (bigA (rv hs bl t).a : Int)),(14,[],.int .u32 (frst (rg Kc t) (rg (row bl 64) t) (rv hs bl t) : Int)),(62,[],.int .i64 (t : Int)),(9,[],.int .u32 ((rv hs bl t).g : Int)),(8,[],.int .u32 ((rv hs bl t).f : Int)),(7,[],.int .u32 ((rv hs bl t).e : Int)),(6,[],.int .u32 ((rv hs bl t).d : Int)),(5,[],.int .u32 ((rv hs bl t).c : Int)),(4,[],.int .u32 ((rv hs bl t).b : Int)),(3,[],.int .u32 ((rv hs bl t).a : Int)),(2,[],.pointer (some ⟨xw,0,none⟩)),(0,[],.pointer (some ⟨b,0,none⟩))]) (nd := (fun _ => [((0 ≤ ((rv hs bl t).a : Int) ∧ ((rv hs bl t).a : Int) ≤ 4294967295) ∧ 0 ≤ ((rv hs bl t).b : Int) ∧ ((rv hs bl t).b : Int) ≤ 4294967295),((0 ≤ ((rv hs bl t).a : Int) ∧ ((rv hs bl t).a : Int) ≤ 4294967295) ∧ 0 ≤ ((rv hs bl t).c : Int) ∧ ((rv hs bl t).c : Int) ≤ 4294967295),((0 ≤ (((((rv hs bl t).a : Int)).toNat &&& (((rv hs bl t).b : Int)).toNat : Nat) : Int) ∧ (((((rv hs bl t).a : Int)).toNat &&& (((rv hs bl t).b : Int)).toNat : Nat) : Int) ≤ 4294967295) ∧ 0 ≤ (((((rv hs bl t).a : Int)).toNat &&& (((rv hs bl t).c : Int)).toNat : Nat) : Int) ∧ (((((rv hs bl t).a : Int)).toNat &&& (((rv hs bl t).c : Int)).toNat : Nat) : Int) ≤ 4294967295),((0 ≤ ((rv hs bl t).b : Int) ∧ ((rv hs bl t).b : Int) ≤ 4294967295) ∧ 0 ≤ ((rv hs bl t).c : Int) ∧ ((rv hs bl t).c : Int) ≤ 4294967295),((0 ≤ ((((((((rv hs bl t).a : Int)).toNat &&& (((rv hs bl t).b : Int)).toNat : Nat) : Int)).toNat ^^^ ((((((rv hs bl t).a : Int)).toNat &&& (((rv hs bl t).c : Int)).toNat : Nat) : Int)).toNat : Nat) : Int) ∧ ((((((((rv hs bl t).a : Int)).toNat &&& (((rv hs bl t).b : Int)).toNat : Nat) : Int)).toNat ^^^ ((((((rv hs bl t).a : Int)).toNat &&& (((rv hs bl t).c : Int)).toNat : Nat) : Int)).toNat : Nat) : Int) ≤ 4294967295) ∧ 0 ≤ (((((rv hs bl t).b : Int)).toNat &&& (((rv hs bl t).c : Int)).toNat : Nat) : Int) ∧ (((((rv hs bl t).b : Int)).toNat &&& (((rv hs bl t).c : Int)).toNat : Nat) : Int) ≤ 4294967295)])) (fun _ => by kernel_rfl) ⟨⟨⟨Int.natCast_nonneg _,le_pow (b := 32) ok.a⟩,⟨Int.natCast_nonneg _,le_pow (b := 32) ok.b⟩⟩,⟨⟨Int.natCast_nonneg _,le_pow (b := 32) ok.a⟩,⟨Int.natCast_nonneg _,le_pow (b := 32) ok.c⟩⟩,⟨⟨Int.natCast_nonneg _,le_pow (b := 32) (Nat.and_lt_two_pow _ (tn_lt ok.b))⟩,⟨Int.natCast_nonneg _,le_pow (b := 32) (Nat.and_lt_two_pow _ (tn_lt ok.c))⟩⟩,⟨⟨Int.natCast_nonneg _,le_pow (b := 32) ok.b⟩,⟨Int.natCast_nonneg _,le_pow (b := 32) ok.c⟩⟩,⟨⟨Int.natCast_nonneg _,le_pow (b := 32) (Nat.xor_lt_two_pow (tn_lt (Nat.and_lt_two_pow _ (tn_lt ok.b))) (tn_lt (Nat.and_lt_two_pow _ (tn_lt ok.c))))⟩,⟨Int.natCast_nonneg _,le_pow (b := 32) (Nat.and_lt_two_pow _ (tn_lt ok.c))⟩⟩,trivial⟩ ?_
   refine Cfg.setG (congrArg (fun (xq : Int) => ([(16,[],.int .u32 xq),(15,[],.int .u32 (bigA (rv hs bl t).a : Int)),(14,[],.int .u32 (frst (rg Kc t) (rg (row bl 64) t) (rv hs bl t) : Int)),(62,[],.int .i64 (t : Int)),(9,[],.int .u32 ((rv hs bl t).g : Int)),(8,[],.int .u32 ((rv hs bl t).f : Int)),(7,[],.int .u32 ((rv hs bl t).e : Int)),(6,[],.int .u32 ((rv hs bl t).d : Int)),(5,[],.int .u32 ((rv hs bl t).c : Int)),(4,[],.int .u32 ((rv hs bl t).b : Int)),(3,[],.int .u32 ((rv hs bl t).a : Int)),(2,[],.pointer (some ⟨xw,0,none⟩)),(0,[],.pointer (some ⟨b,0,none⟩))] : Env)) (show _ = (most (rv hs bl t).a (rv hs bl t).b (rv hs bl t).c : Int) from most_eq _ _ _)) ?_
   refine Cfg.reg rfl [0,2,3,4,5,6,7,8,9,14,17,62] [] (Γ' := [(17,[],.int .u32 (((bigA (rv hs bl t).a : Int) + (most (rv hs bl t).a (rv hs bl t).b (rv hs bl t).c : Int)) % 4294967296)),(14,[],.int .u32 (frst (rg Kc t) (rg (row bl 64) t) (rv hs bl t) : Int)),(62,[],.int .i64 (t : Int)),(9,[],.int .u32 ((rv hs bl t).g : Int)),(8,[],.int .u32 ((rv hs bl t).f : Int)),(7,[],.int .u32 ((rv hs bl t).e : Int)),(6,[],.int .u32 ((rv hs bl t).d : Int)),(5,[],.int .u32 ((rv hs bl t).c : Int)),(4,[],.int .u32 ((rv hs bl t).b : Int)),(3,[],.int .u32 ((rv hs bl t).a : Int)),(2,[],.pointer (some ⟨xw,0,none⟩)),(0,[],.pointer (some ⟨b,0,none⟩))]) (nd := (fun _ => [])) (fun _ => by kernel_rfl) trivial ?_
   refine Cfg.setG (congrArg (fun (xq : Int) => ([(17,[],.int .u32 xq),(14,[],.int .u32 (frst (rg Kc t) (rg (row bl 64) t) (rv hs bl t) : Int)),(62,[],.int .i64 (t : Int)),(9,[],.int .u32 ((rv hs bl t).g : Int)),(8,[],.int .u32 ((rv hs bl t).f : Int)),(7,[],.int .u32 ((rv hs bl t).e : Int)),(6,[],.int .u32 ((rv hs bl t).d : Int)),(5,[],.int .u32 ((rv hs bl t).c : Int)),(4,[],.int .u32 ((rv hs bl t).b : Int)),(3,[],.int .u32 ((rv hs bl t).a : Int)),(2,[],.pointer (some ⟨xw,0,none⟩)),(0,[],.pointer (some ⟨b,0,none⟩))] : Env)) (show _ = (scnd (rv hs bl t) : Int) from scnd_eq _)) ?_
   refine Cfg.reg rfl [0,2,3,4,5,7,8,9,10,14,17,62] [] (Γ' := [(7,[],.int .u32 ((((rv hs bl t).d : Int) + (frst (rg Kc t) (rg (row bl 64) t) (rv hs bl t) : Int)) % 4294967296)),(8,[],.int .u32 ((rv hs bl t).e : Int)),(9,[],.int .u32 ((rv hs bl t).f : Int)),(10,[],.int .u32 ((rv hs bl t).g : Int)),(17,[],.int .u32 (scnd (rv hs bl t) : Int)),(14,[],.int .u32 (frst (rg Kc t) (rg (row bl 64) t) (rv hs bl t) : Int)),(62,[],.int .i64 (t : Int)),(5,[],.int .u32 ((rv hs bl t).c : Int)),(4,[],.int .u32 ((rv hs bl t).b : Int)),(3,[],.int .u32 ((rv hs bl t).a : Int)),(2,[],.pointer (some ⟨xw,0,none⟩)),(0,[],.pointer (some ⟨b,0,none⟩))]) (nd := (fun _ => [])) (fun _ => by kernel_rfl) trivial ?_
   refine Cfg.reg rfl [0,2,3,4,5,6,7,8,9,10,62] [] (Γ' := [(3,[],.int .u32 (((frst (rg Kc t) (rg (row bl 64) t) (rv hs bl t) : Int) + (scnd (rv hs bl t) : Int)) % 4294967296)),(4,[],.int .u32 ((rv hs bl t).a : Int)),(5,[],.int .u32 ((rv hs bl t).b : Int)),(6,[],.int .u32 ((rv hs bl t).c : Int)),(7,[],.int .u32 ((((rv hs bl t).d : Int) + (frst (rg Kc t) (rg (row bl 64) t) (rv hs bl t) : Int)) % 4294967296)),(8,[],.int .u32 ((rv hs bl t).e : Int)),(9,[],.int .u32 ((rv hs bl t).f : Int)),(10,[],.int .u32 ((rv hs bl t).g : Int)),(62,[],.int .i64 (t : Int)),(2,[],.pointer (some ⟨xw,0,none⟩)),(0,[],.pointer (some ⟨b,0,none⟩))]) (nd := (fun _ => [])) (fun _ => by kernel_rfl) trivial ?_
   refine Cfg.reg rfl [0,2,3,4,5,6,7,8,9,10,62] [] (Γ' := [(62,[],.int .i64 ((t : Int) + 1)),(3,[],.int .u32 (((frst (rg Kc t) (rg (row bl 64) t) (rv hs bl t) : Int) + (scnd (rv hs bl t) : Int)) % 4294967296)),(4,[],.int .u32 ((rv hs bl t).a : Int)),(5,[],.int .u32 ((rv hs bl t).b : Int)),(6,[],.int .u32 ((rv hs bl t).c : Int)),(7,[],.int .u32 ((((rv hs bl t).d : Int) + (frst (rg Kc t) (rg (row bl 64) t) (rv hs bl t) : Int)) % 4294967296)),(8,[],.int .u32 ((rv hs bl t).e : Int)),(9,[],.int .u32 ((rv hs bl t).f : Int)),(10,[],.int .u32 ((rv hs bl t).g : Int)),(2,[],.pointer (some ⟨xw,0,none⟩)),(0,[],.pointer (some ⟨b,0,none⟩))]) (nd := (fun _ => [((-9223372036854775808 : Int) ≤ ((t : Int) + 1) ∧ ((t : Int) + 1) ≤ 9223372036854775807)])) (fun _ => by kernel_rfl) ⟨(by omega),trivial⟩ ?_
   refine Cfg.setG (congrArg (fun (xq : Int) => ([(62,[],.int .i64 ((t : Int) + 1)),(3,[],.int .u32 xq),(4,[],.int .u32 ((rv hs bl t).a : Int)),(5,[],.int .u32 ((rv hs bl t).b : Int)),(6,[],.int .u32 ((rv hs bl t).c : Int)),(7,[],.int .u32 ((((rv hs bl t).d : Int) + (frst (rg Kc t) (rg (row bl 64) t) (rv hs bl t) : Int)) % 4294967296)),(8,[],.int .u32 ((rv hs bl t).e : Int)),(9,[],.int .u32 ((rv hs bl t).f : Int)),(10,[],.int .u32 ((rv hs bl t).g : Int)),(2,[],.pointer (some ⟨xw,0,none⟩)),(0,[],.pointer (some ⟨b,0,none⟩))] : Env)) (show _ = ((rv hs bl (t + 1)).a : Int) from rv_a hs bl t)) ?_
   refine Cfg.setG (congrArg (fun (xq : Int) => ([(62,[],.int .i64 ((t : Int) + 1)),(3,[],.int .u32 ((rv hs bl (t + 1)).a : Int)),(4,[],.int .u32 xq),(5,[],.int .u32 ((rv hs bl t).b : Int)),(6,[],.int .u32 ((rv hs bl t).c : Int)),(7,[],.int .u32 ((((rv hs bl t).d : Int) + (frst (rg Kc t) (rg (row bl 64) t) (rv hs bl t) : Int)) % 4294967296)),(8,[],.int .u32 ((rv hs bl t).e : Int)),(9,[],.int .u32 ((rv hs bl t).f : Int)),(10,[],.int .u32 ((rv hs bl t).g : Int)),(2,[],.pointer (some ⟨xw,0,none⟩)),(0,[],.pointer (some ⟨b,0,none⟩))] : Env)) (show _ = ((rv hs bl (t + 1)).b : Int) from rv_b hs bl t)) ?_
   refine Cfg.setG (congrArg (fun (xq : Int) => ([(62,[],.int .i64 ((t : Int) + 1)),(3,[],.int .u32 ((rv hs bl (t + 1)).a : Int)),(4,[],.int .u32 ((rv hs bl (t + 1)).b : Int)),(5,[],.int .u32 xq),(6,[],.int .u32 ((rv hs bl t).c : Int)),(7,[],.int .u32 ((((rv hs bl t).d : Int) + (frst (rg Kc t) (rg (row bl 64) t) (rv hs bl t) : Int)) % 4294967296)),(8,[],.int .u32 ((rv hs bl t).e : Int)),(9,[],.int .u32 ((rv hs bl t).f : Int)),(10,[],.int .u32 ((rv hs bl t).g : Int)),(2,[],.pointer (some ⟨xw,0,none⟩)),(0,[],.pointer (some ⟨b,0,none⟩))] : Env)) (show _ = ((rv hs bl (t + 1)).c : Int) from rv_c hs bl t)) ?_
   refine Cfg.setG (congrArg (fun (xq : Int) => ([(62,[],.int .i64 ((t : Int) + 1)),(3,[],.int .u32 ((rv hs bl (t + 1)).a : Int)),(4,[],.int .u32 ((rv hs bl (t + 1)).b : Int)),(5,[],.int .u32 ((rv hs bl (t + 1)).c : Int)),(6,[],.int .u32 xq),(7,[],.int .u32 ((((rv hs bl t).d : Int) + (frst (rg Kc t) (rg (row bl 64) t) (rv hs bl t) : Int)) % 4294967296)),(8,[],.int .u32 ((rv hs bl t).e : Int)),(9,[],.int .u32 ((rv hs bl t).f : Int)),(10,[],.int .u32 ((rv hs bl t).g : Int)),(2,[],.pointer (some ⟨xw,0,none⟩)),(0,[],.pointer (some ⟨b,0,none⟩))] : Env)) (show _ = ((rv hs bl (t + 1)).d : Int) from rv_d hs bl t)) ?_
   refine Cfg.setG (congrArg (fun (xq : Int) => ([(62,[],.int .i64 ((t : Int) + 1)),(3,[],.int .u32 ((rv hs bl (t + 1)).a : Int)),(4,[],.int .u32 ((rv hs bl (t + 1)).b : Int)),(5,[],.int .u32 ((rv hs bl (t + 1)).c : Int)),(6,[],.int .u32 ((rv hs bl (t + 1)).d : Int)),(7,[],.int .u32 xq),(8,[],.int .u32 ((rv hs bl t).e : Int)),(9,[],.int .u32 ((rv hs bl t).f : Int)),(10,[],.int .u32 ((rv hs bl t).g : Int)),(2,[],.pointer (some ⟨xw,0,none⟩)),(0,[],.pointer (some ⟨b,0,none⟩))] : Env)) (show _ = ((rv hs bl (t + 1)).e : Int) from rv_e hs bl t)) ?_
   refine Cfg.setG (congrArg (fun (xq : Int) => ([(62,[],.int .i64 ((t : Int) + 1)),(3,[],.int .u32 ((rv hs bl (t + 1)).a : Int)),(4,[],.int .u32 ((rv hs bl (t + 1)).b : Int)),(5,[],.int .u32 ((rv hs bl (t + 1)).c : Int)),(6,[],.int .u32 ((rv hs bl (t + 1)).d : Int)),(7,[],.int .u32 ((rv hs bl (t + 1)).e : Int)),(8,[],.int .u32 xq),(9,[],.int .u32 ((rv hs bl t).f : Int)),(10,[],.int .u32 ((rv hs bl t).g : Int)),(2,[],.pointer (some ⟨xw,0,none⟩)),(0,[],.pointer (some ⟨b,0,none⟩))] : Env)) (show _ = ((rv hs bl (t + 1)).f : Int) from rv_f hs bl t)) ?_
   refine Cfg.setG (congrArg (fun (xq : Int) => ([(62,[],.int .i64 ((t : Int) + 1)),(3,[],.int .u32 ((rv hs bl (t + 1)).a : Int)),(4,[],.int .u32 ((rv hs bl (t + 1)).b : Int)),(5,[],.int .u32 ((rv hs bl (t + 1)).c : Int)),(6,[],.int .u32 ((rv hs bl (t + 1)).d : Int)),(7,[],.int .u32 ((rv hs bl (t + 1)).e : Int)),(8,[],.int .u32 ((rv hs bl (t + 1)).f : Int)),(9,[],.int .u32 xq),(10,[],.int .u32 ((rv hs bl t).g : Int)),(2,[],.pointer (some ⟨xw,0,none⟩)),(0,[],.pointer (some ⟨b,0,none⟩))] : Env)) (show _ = ((rv hs bl (t + 1)).g : Int) from rv_g hs bl t)) ?_
   refine Cfg.setG (congrArg (fun (xq : Int) => ([(62,[],.int .i64 ((t : Int) + 1)),(3,[],.int .u32 ((rv hs bl (t + 1)).a : Int)),(4,[],.int .u32 ((rv hs bl (t + 1)).b : Int)),(5,[],.int .u32 ((rv hs bl (t + 1)).c : Int)),(6,[],.int .u32 ((rv hs bl (t + 1)).d : Int)),(7,[],.int .u32 ((rv hs bl (t + 1)).e : Int)),(8,[],.int .u32 ((rv hs bl (t + 1)).f : Int)),(9,[],.int .u32 ((rv hs bl (t + 1)).g : Int)),(10,[],.int .u32 xq),(2,[],.pointer (some ⟨xw,0,none⟩)),(0,[],.pointer (some ⟨b,0,none⟩))] : Env)) (show _ = ((rv hs bl (t + 1)).h : Int) from rv_h hs bl t)) ?_
   refine Cfg.again rfl (t + 1) (by show t + 1 ≤ 64; omega) (by show 64 - (t + 1) < 64 - t; omega) (Conv.mk (by kernel_rfl)) (.cons_cons _ (.cons_cons _ .slnil))
  ·have c1 : (¬ ((t : Int) < (64 : Int))) := (of_decide_eq_false c1r)
   refine Cfg.reg rfl [0,137,138] [dZ,dZ,dZ,dZ,dZ,dZ,dZ,dZ,(0,false,some (.agg (wv (w8l (rv hs bl t)))))] (Γ' := [(138,[],.int .i64 0),(137,[],.agg (wv (w8l (rv hs bl t)))),(0,[],.pointer (some ⟨b,0,none⟩))]) (nd := (fun S => [(∀ w1,S w1 → (Instr.build 148 #[(0,.int .u32 ((rv hs bl t).a : Int)),(1,.int .u32 ((rv hs bl t).b : Int)),(2,.int .u32 ((rv hs bl t).c : Int)),(3,.int .u32 ((rv hs bl t).d : Int)),(4,.int .u32 ((rv hs bl t).e : Int)),(5,.int .u32 ((rv hs bl t).f : Int)),(6,.int .u32 ((rv hs bl t).g : Int)),(7,.int .u32 ((rv hs bl t).h : Int))]).run Tryz.prog w1 = .ok (.agg (wv (w8l (rv hs bl t)))) w1)])) (fun _ => by kernel_rfl) ⟨(fun _ _ => by kernel_rfl),trivial⟩ ?_
   refine Cfg.loop rfl (ι := Nat) (fun (k : Nat) => [(138,[],.int .i64 (k : Int)),(137,[],.agg (wv (w8l (rv hs bl t)))),(0,[],.pointer (some ⟨b,0,none⟩))]) (fun (k : Nat) => [(xw,.cells (wv (row bl 64)) 171 (0,0)),(b,.cells (stC (sm hs (w8l (rv hs bl t)) k) bl held total) 151 (0,0))]) (fun (k : Nat) => (k ≤ 8)) (fun (k : Nat) => 8 - k) 0 ?_ (Conv.mk (by kernel_rfl)) (.cons_cons _ (.cons_cons _ .slnil)) ?_
   ·exact Nat.zero_le _
   ·rintro k hk
    refine Cfg.reg rfl [0,137,138,139] [] (Γ' := [(139,[],.bool (decide ((k : Int) < (8 : Int)))),(138,[],.int .i64 (k : Int)),(137,[],.agg (wv (w8l (rv hs bl t)))),(0,[],.pointer (some ⟨b,0,none⟩))]) (nd := (fun _ => [])) (fun _ => by kernel_rfl) trivial ?_
    refine Cfg.cond rfl (b := (decide ((k : Int) < (8 : Int)))) (by kernel_rfl) (fun c2r => ?_) (fun c2r => ?_)
    ·have c2 : ((k : Int) < (8 : Int)) := (of_decide_eq_true c2r)
     refine Cfg.reg rfl [0,18,19,137,138] [dZ,(0,false,some (.int .u32 (rg (w8l (rv hs bl t)) k : Int)))] (Γ' := [(19,[],.int .u32 (rg (w8l (rv hs bl t)) k : Int)),(18,[],.int .i64 (k : Int)),(138,[],.int .i64 (k : Int)),(137,[],.agg (wv (w8l (rv hs bl t)))),(0,[],.pointer (some ⟨b,0,none⟩))]) (nd := (fun _ => [(0 ≤ (k : Int) ∧ (k : Int) < (8 : Int)),(((wv (w8l (rv hs bl t))))[k]? = some (.int .u32 (rg (w8l (rv hs bl t)) k : Int)))])) (fun _ => by kernel_rfl) ⟨(by omega),(wv_get (w8l_len _) (by omega)),trivial⟩ ?_
     refine Cfg.begA rfl (by kernel_rfl) [(xw,.cells (wv (row bl 64)) 171 (0,0))] ?_
     refine CfgA.pure [0,1,2,3,4,6,8,9] [] (some [0,137,138,143,146,148,151]) (l' := #[true,true,true,true,true,false,true,false,true,true,false,false]) (by kernel_rfl) (by kernel_rfl) (.cons_cons _ (.cons _ .slnil)) 4 rfl (Γ' := [(151,[],.pointer (some ⟨b,0,none⟩)),(148,[],.int .u32 (rg (w8l (rv hs bl t)) k : Int)),(146,[],.pointer (some ⟨b,k,none⟩)),(143,[],.int .i64 (k : Int)),(138,[],.int .i64 (k : Int)),(137,[],.agg (wv (w8l (rv hs bl t)))),(0,[],.pointer (some ⟨b,0,none⟩))]) (nd := (fun _ => [(0 ≤ (k : Int) ∧ (k : Int) < (8 : Int))])) (fun _ => by kernel_rfl) ⟨(by omega),trivial⟩ ?_
     refine CfgA.eff 5 (o := _) rfl (by kernel_rfl) (fuel' := 3) rfl (by kernel_rfl) (by kernel_rfl) (Eff.quiet (raw := false) (orc := some (.int .u32 (rg (sm hs (w8l (rv hs bl t)) k) k : Int))) (v := .int .u32 (rg (sm hs (w8l (rv hs bl t)) k) k : Int)) (nd := (fun S => [(∀ w1,S w1 → w1.cell? ⟨b,k,none⟩ = some (.int .u32 (rg (sm hs (w8l (rv hs bl t)) k) k : Int)))])) (fun _ => by kernel_rfl) ⟨(fun w1 h => h.ocell 1 rfl (st_sum (sm_len _ hh k) (by omega))),trivial⟩ (by kernel_rfl)) (fun _ _ => (.cons_cons _ (.cons _ .slnil))) ?_
     rintro ⟨⟩ -
     refine CfgA.pure [7,10] [] (some [0,137,138,149,152]) (l' := tF 11 1) (by kernel_rfl) (by kernel_rfl) (.cons_cons _ (.cons _ .slnil)) 1 rfl (Γ' := [(152,[],.pointer (some ⟨b,k,none⟩)),(149,[],.int .u32 (((rg (sm hs (w8l (rv hs bl t)) k) k : Int) + (rg (w8l (rv hs bl t)) k : Int)) % 4294967296)),(138,[],.int .i64 (k : Int)),(137,[],.agg (wv (w8l (rv hs bl t)))),(0,[],.pointer (some ⟨b,0,none⟩))]) (nd := (fun _ => [(0 ≤ (k : Int) ∧ (k : Int) < (8 : Int))])) (fun _ => by kernel_rfl) ⟨(by omega),trivial⟩ ?_
     refine CfgA.eff 11 (o := _) rfl (by kernel_rfl) (fuel' := 0) rfl (by kernel_rfl) (by kernel_rfl) (Eff.store1 (b := b) (off := k) (v := .int .u32 (((rg (sm hs (w8l (rv hs bl t)) k) k : Int) + (rg (w8l (rv hs bl t)) k : Int)) % 4294967296)) rfl (by kernel_rfl) (by kernel_rfl) rfl (by kernel_rfl) 1 (cs := (stC (sm hs (w8l (rv hs bl t)) k) bl held total)) (e := 151) (by kernel_rfl) (by rw [st_size (sm_len _ hh k) hb]; omega)) (fun _ _ => (.cons_cons _ (.cons _ .slnil))) ?_
     rintro ⟨⟩ -
     refine CfgA.done (by kernel_rfl) ?_
     refine Conv.cfg (Γ' := [(138,[],.int .i64 (k : Int)),(137,[],.agg (wv (w8l (rv hs bl t)))),(0,[],.pointer (some ⟨b,0,none⟩))]) (Conv.mk (by kernel_rfl)) ?_
     refine Cfg.reg rfl [0,137,138] [] (Γ' := [(138,[],.int .i64 ((k : Int) + 1)),(137,[],.agg (wv (w8l (rv hs bl t)))),(0,[],.pointer (some ⟨b,0,none⟩))]) (nd := (fun _ => [((-9223372036854775808 : Int) ≤ ((k : Int) + 1) ∧ ((k : Int) + 1) ≤ 9223372036854775807)])) (fun _ => by kernel_rfl) ⟨(by omega),trivial⟩ ?_
     refine Cfg.setO (congrArg (fun (xq : Array Value) => ([(xw,.cells (wv (row bl 64)) 171 (0,0)),(b,.cells xq 151 (0,0))] : List (Nat × Obj))) (show _ = (stC (sm hs (w8l (rv hs bl t)) (k + 1)) bl held total) from sm_step hh (by omega))) ?_
     refine Cfg.again rfl (k + 1) (by show k + 1 ≤ 8; omega) (by show 8 - (k + 1) < 8 - k; omega) (Conv.mk (by kernel_rfl)) (.cons_cons _ (.cons_cons _ .slnil))
    ·have c2 : (¬ ((k : Int) < (8 : Int))) := (of_decide_eq_false c2r)
     refine Cfg.fin rfl (rs := []) rfl [] trivial (fun w1 hp => ?_)
     obtain rfl : t = 64 := by omega
     obtain rfl : k = 8 := by omega
     exact ⟨rfl,hp.ext,hp.own (b,_) (List.mem_cons_of_mem _ (List.mem_cons_self ..))⟩
end Go.Proofs.YtojefiolcedigaaGreatDoor
namespace Go.Proofs.YtojefiolcedigaaGreatDoor
open K
set_option linter.unusedVariables false
set_option maxRecDepth 100000 in
theorem shaWrite (b : Nat) (z : Sh) (total : Nat) (s : ByteArray) {kt : Array Value} {t0 : TypeId} {fr0 : Nat × Nat} (w : World) (hx : z.Ok) (hR : Has w [(0,.cells kt t0 fr0)]) (hS : w.heap[b]? = some (.cells (stC z.hs z.bl z.held total) 151 (0,0))) (hne : b ≠ 0) (hK : KT kt := by assumption) :
  Calls Tryz.prog 79 #[.pointer (some ⟨b,0,none⟩),.string s] w fun e w' => e = .returned (.tuple #[]) ∧ Ext [b] w w' ∧ w'.heap[b]? = some (.cells (stC (feed z s.data.toList).hs (feed z s.data.toList).bl (feed z s.data.toList).held ((total + s.size) % 18446744073709551616)) 151 (0,0)) := by
 refine enter (vs := [.pointer (some ⟨b,0,none⟩),.string s]) [b] [(0,.cells kt t0 fr0)] [(b,.cells (stC z.hs z.bl z.held total) 151 (0,0))] Tryz.func79 rfl (by kernel_rfl) (HP.startM hR hS (by simpa using hne)) ?_
 refine Cfg.begL rfl ?_
 refine CfgL.pure 10 [dZ,dZ,dZ,(0,false,some (.int .u64 (total : Int)))] (some [0,1,12,14]) (Γ' := [(14,[],.pointer (some ⟨b,73,none⟩)),(12,[],.int .u64 (((total : Int) + ((s.size : Int) % 18446744073709551616)) % 18446744073709551616)),(0,[],.pointer (some ⟨b,0,none⟩)),(1,[],.string s)]) (nd := (fun S => [(∀ w1,S w1 → w1.cell? ⟨b,73,none⟩ = some (.int .u64 (total : Int)))])) (by kernel_rfl) (fun _ => by kernel_rfl) ⟨(fun w1 h => h.ocell 0 rfl (st_total hx.hh hx.hb)),trivial⟩ ?_
 refine CfgL.eff (o := _) rfl (by kernel_rfl) (by kernel_rfl) (Eff.store1 (b := b) (off := 73) (v := .int .u64 (((total : Int) + ((s.size : Int) % 18446744073709551616)) % 18446744073709551616)) rfl (by kernel_rfl) (by kernel_rfl) rfl (by kernel_rfl) 0 (cs := (stC z.hs z.bl z.held total)) (e := 151) (by kernel_rfl) (by rw [st_size hx.hh hx.hb]; omega)) ?_
 rintro ⟨⟩ -
 refine CfgL.done rfl ?_
 refine Conv.cfg (Γ' := [(0,[],.pointer (some ⟨b,0,none⟩)),(1,[],.string s)]) (Conv.mk (by kernel_rfl)) ?_
 refine Cfg.setO (congrArg (fun (xq : Array Value) => ([(b,.cells xq 151 (0,0))] : List (Nat × Obj))) (show _ = (stC z.hs z.bl z.held ((total + s.size) % 18446744073709551616)) from st_setTotal hx.hh hx.hb (by omega))) ?_
 refine Cfg.loop rfl (ι := ByteArray × Sh) (fun (xz : ByteArray × Sh) => match xz with | (p,y) => [(0,[],.pointer (some ⟨b,0,none⟩)),(1,[],.string p)]) (fun (xz : ByteArray × Sh) => match xz with | (p,y) => [(b,.cells (stC y.hs y.bl y.held ((total + s.size) % 18446744073709551616)) 151 (0,0))]) (fun (xz : ByteArray × Sh) => match xz with | (p,y) => (y.Ok) ∧ (feed y p.data.toList = feed z s.data.toList)) (fun (xz : ByteArray × Sh) => match xz with | (p,y) => p.size) (s,z) ?_ (Conv.mk (by kernel_rfl)) (.cons_cons _ .slnil) ?_
 ·exact ⟨hx,rfl⟩
 ·rintro ⟨p,y⟩ ⟨oky,hf⟩
  obtain ⟨hs,bl,held⟩ := y
  obtain ⟨hh,hb,hlt,hld⟩ := oky
  dsimp only at hh hb hlt hld
  have hcn : cn p held = min p.size (64 - held) := rfl
  refine Cfg.reg rfl [0,1,17] [] (Γ' := [(17,[],.bool (decide ((p.size : Int) > (0 : Int)))),(0,[],.pointer (some ⟨b,0,none⟩)),(1,[],.string p)]) (nd := (fun _ => [])) (fun _ => by kernel_rfl) trivial ?_
  refine Cfg.cond rfl (b := (decide ((p.size : Int) > (0 : Int)))) (by kernel_rfl) (fun c1r => ?_) (fun c1r => ?_)
  ·have c1 : ((p.size : Int) > (0 : Int)) := (of_decide_eq_true c1r)
   refine Cfg.begA rfl (by kernel_rfl) [] ?_
   refine CfgA.pure [0,1,2,3,4,5,8] [] (some [0,1,20,23,26]) (l' := #[true,true,true,true,true,true,false,false,true,false,false]) (by kernel_rfl) (by kernel_rfl) (.cons _ .slnil) 4 rfl (Γ' := [(26,[],.string p),(23,[],.pointer (some ⟨b,72,none⟩)),(20,[],.pointer (some ⟨b,8,none⟩)),(0,[],.pointer (some ⟨b,0,none⟩)),(1,[],.string p)]) (nd := (fun _ => [])) (fun _ => by kernel_rfl) trivial ?_
   refine CfgA.eff 6 (o := _) rfl (by kernel_rfl) (fuel' := 3) rfl (by kernel_rfl) (by kernel_rfl) (Eff.quiet (raw := false) (orc := some (.int .i64 (held : Int))) (v := .int .i64 (held : Int)) (nd := (fun S => [(∀ w1,S w1 → w1.cell? ⟨b,72,none⟩ = some (.int .i64 (held : Int)))])) (fun _ => by kernel_rfl) ⟨(fun w1 h => h.ocell 0 rfl (st_held hh hb)),trivial⟩ (by kernel_rfl)) (fun _ _ => List.nil_sublist _) ?_
   rintro ⟨⟩ -
   refine CfgA.pure [7] [] (some [0,1,25,26]) (l' := tF 9 2) (by kernel_rfl) (by kernel_rfl) (.cons _ .slnil) 2 rfl (Γ' := [(25,[],.slice (some ⟨b,(if 64 = held then 8 else (addO 8 held)),none⟩) (64 - held) (64 - held)),(26,[],.string p),(0,[],.pointer (some ⟨b,0,none⟩)),(1,[],.string p)]) (nd := (fun _ => [(0 ≤ (held : Int)),(held ≤ 64 ∧ 64 ≤ 64)])) (fun _ => by kernel_rfl) ⟨(by omega),(by omega),trivial⟩ ?_
   refine CfgA.eff 9 (o := _) rfl (by kernel_rfl) (fuel' := 1) rfl (by kernel_rfl) (by kernel_rfl) (Eff.copyS rfl Tryz.underlying77 (by kernel_rfl) (b := b) (off := (if 64 = held then 8 else (addO 8 held))) (dl := ((64 - held))) (c := ((64 - held))) (by kernel_rfl) (s := p) (by kernel_rfl) 0 (cs := (stC hs bl held ((total + s.size) % 18446744073709551616))) (te := 151) (by kernel_rfl) (cn p held) rfl (by rw [off_eq hld,st_size hh hb]; omega)) (fun _ _ => List.nil_sublist _) ?_
   rintro ⟨⟩ -
   refine CfgA.pure [10] [] (some [0,1,4]) (l' := tF 11 0) (by kernel_rfl) (by kernel_rfl) (.cons _ .slnil) 0 rfl (Γ' := [(4,[],.int .i64 ((cn p held) : Int)),(0,[],.pointer (some ⟨b,0,none⟩)),(1,[],.string p)]) (nd := (fun _ => [])) (fun _ => by kernel_rfl) trivial ?_
   refine CfgA.done (by kernel_rfl) ?_
   refine Cfg.setO (congrArg (fun (xq : Array Value) => ([(b,.cells xq 151 (0,0))] : List (Nat × Obj))) (show _ = (stC hs (lay bl held (p.data.toList.take (cn p held))) held ((total + s.size) % 18446744073709551616)) from by rw [off_eq hld]; exact spl_lay _ hh hb (by rw [part_len (by omega)]; omega))) ?_
   refine Cfg.reg rfl [0,1,4] [] (Γ' := [(1,[],.string (p.extract (((cn p held))) p.size)),(4,[],.int .i64 ((cn p held) : Int)),(0,[],.pointer (some ⟨b,0,none⟩))]) (nd := (fun _ => [(0 ≤ ((cn p held) : Int)),(((cn p held)) ≤ p.size ∧ p.size ≤ p.size)])) (fun _ => by kernel_rfl) ⟨(by omega),(by omega),trivial⟩ ?_
   refine Cfg.begL rfl ?_
   refine CfgL.pure 8 [dZ,dZ,dZ,(0,false,some (.int .i64 (held : Int)))] (some [0,1,36,38]) (Γ' := [(38,[],.pointer (some ⟨b,72,none⟩)),(36,[],.int .i64 ((held : Int) + ((cn p held) : Int))),(1,[],.string (p.extract (((cn p held))) p.size)),(0,[],.pointer (some ⟨b,0,none⟩))]) (nd := (fun S => [(∀ w1,S w1 → w1.cell? ⟨b,72,none⟩ = some (.int .i64 (held : Int))),((-9223372036854775808 : Int) ≤ ((held : Int) + ((cn p held) : Int)) ∧ ((held : Int) + ((cn p held) : Int)) ≤ 9223372036854775807)])) (by kernel_rfl) (fun _ => by kernel_rfl) ⟨(fun w1 h => h.ocell 0 rfl (st_held hh ((lay_len _ _ _).trans hb))),(by omega),trivial⟩ ?_
   refine CfgL.eff (o := _) rfl (by kernel_rfl) (by kernel_rfl) (Eff.store1 (b := b) (off := 72) (v := .int .i64 ((held : Int) + ((cn p held) : Int))) rfl (by kernel_rfl) (by kernel_rfl) rfl (by kernel_rfl) 0 (cs := (stC hs (lay bl held (p.data.toList.take (cn p held))) held ((total + s.size) % 18446744073709551616))) (e := 151) (by kernel_rfl) (by rw [st_size hh ((lay_len _ _ _).trans hb)]; omega)) ?_
   rintro ⟨⟩ -
   refine CfgL.done rfl ?_
   refine Conv.cfg (Γ' := [(1,[],.string (p.extract (((cn p held))) p.size)),(0,[],.pointer (some ⟨b,0,none⟩))]) (Conv.mk (by kernel_rfl)) ?_
   refine Cfg.setO (congrArg (fun (xq : Array Value) => ([(b,.cells xq 151 (0,0))] : List (Nat × Obj))) (show _ = (stC hs (lay bl held (p.data.toList.take (cn p held))) (held + (cn p held)) ((total + s.size) % 18446744073709551616)) from st_setHeld hh ((lay_len _ _ _).trans hb) (by omega))) ?_
   refine Cfg.reg rfl [0,1,43] [dZ,dZ,dZ,(0,false,some (.int .i64 ((held + (cn p held)) : Int)))] (Γ' := [(43,[],.bool (((held + (cn p held)) : Int) == (64 : Int))),(1,[],.string (p.extract (((cn p held))) p.size)),(0,[],.pointer (some ⟨b,0,none⟩))]) (nd := (fun S => [(∀ w1,S w1 → w1.cell? ⟨b,72,none⟩ = some (.int .i64 ((held + (cn p held)) : Int)))])) (fun _ => by kernel_rfl) ⟨(fun w1 h => h.ocell 0 rfl (st_held hh ((lay_len _ _ _).trans hb))),trivial⟩ ?_
   refine Cfg.cond rfl (b := (((held + (cn p held)) : Int) == (64 : Int))) (by kernel_rfl) (fun c2r => ?_) (fun c2r => ?_)
   ·have c2 : (((held + (cn p held)) : Int) = (64 : Int)) := (beq_iff_eq.1 c2r)
    refine Cfg.begL rfl ?_
    refine CfgL.pure 1 [] (some [0,1,44]) (Γ' := [(44,[],.pointer (some ⟨b,0,none⟩)),(1,[],.string (p.extract (((cn p held))) p.size)),(0,[],.pointer (some ⟨b,0,none⟩))]) (nd := (fun _ => [])) (by kernel_rfl) (fun _ => by kernel_rfl) trivial ?_
    refine CfgL.eff (o := _) rfl (by kernel_rfl) (by kernel_rfl) (Eff.callM (vs := [.pointer (some ⟨b,0,none⟩)]) (.tuple #[]) 0 (b := b) (ob := .cells (stC hs (lay bl held (p.data.toList.take (cn p held))) (held + (cn p held)) ((total + s.size) % 18446744073709551616)) 151 (0,0)) (.cells (stC (mixF hs (lay bl held (p.data.toList.take (cn p held)))) (lay bl held (p.data.toList.take (cn p held))) (held + (cn p held)) ((total + s.size) % 18446744073709551616)) 151 (0,0)) rfl Tryz.func103 rfl rfl (by kernel_rfl) (by kernel_rfl) (fun w1 h => shaMix b hs (lay bl held (p.data.toList.take (cn p held))) (held + (cn p held)) ((total + s.size) % 18446744073709551616) w1 hh ((lay_len _ _ _).trans hb) hlt (h.hasR (fun e he => he)) (h.own _ (List.mem_cons_self ..)) hne)) ?_
    rintro ⟨⟩ -
    refine CfgL.done rfl ?_
    refine Conv.cfg (Γ' := [(1,[],.string (p.extract (((cn p held))) p.size)),(0,[],.pointer (some ⟨b,0,none⟩))]) (Conv.mk (by kernel_rfl)) ?_
    refine Cfg.begL rfl ?_
    refine CfgL.pure 3 [] (some [0,1,48]) (Γ' := [(48,[],.pointer (some ⟨b,72,none⟩)),(1,[],.string (p.extract (((cn p held))) p.size)),(0,[],.pointer (some ⟨b,0,none⟩))]) (nd := (fun _ => [])) (by kernel_rfl) (fun _ => by kernel_rfl) trivial ?_
    refine CfgL.eff (o := _) rfl (by kernel_rfl) (by kernel_rfl) (Eff.store1 (b := b) (off := 72) (v := .int .i64 0) rfl (by kernel_rfl) (by kernel_rfl) rfl (by kernel_rfl) 0 (cs := (stC (mixF hs (lay bl held (p.data.toList.take (cn p held)))) (lay bl held (p.data.toList.take (cn p held))) (held + (cn p held)) ((total + s.size) % 18446744073709551616))) (e := 151) (by kernel_rfl) (by rw [st_size (mixF_len _ hh) ((lay_len _ _ _).trans hb)]; omega)) ?_
    rintro ⟨⟩ -
    refine CfgL.done rfl ?_
    refine Conv.cfg (Γ' := [(1,[],.string (p.extract (((cn p held))) p.size)),(0,[],.pointer (some ⟨b,0,none⟩))]) (Conv.mk (by kernel_rfl)) ?_
    have hfull : held + (cn p held) = 64 := by omega
    have hfd := feed_full (p.data.toList.take (cn p held)) hs bl held hld (by rw [part_len (by omega)]; omega)
    refine Cfg.setO (congrArg (fun (xq : Array Value) => ([(b,.cells xq 151 (0,0))] : List (Nat × Obj))) (show _ = (stC (mixF hs (lay bl held (p.data.toList.take (cn p held)))) (lay bl held (p.data.toList.take (cn p held))) 0 ((total + s.size) % 18446744073709551616)) from st_setHeld (mixF_len _ hh) ((lay_len _ _ _).trans hb) rfl)) ?_
    refine Cfg.again rfl (p.extract (cn p held) p.size,⟨mixF hs (lay bl held (p.data.toList.take (cn p held))),(lay bl held (p.data.toList.take (cn p held))),0⟩) ⟨by rw [← hfd]; exact feed_ok _ ⟨hh,hb,hlt,hld⟩,by rw [← hfd,feed_ext]; exact hf⟩ (by show (p.extract (cn p held) p.size).size < p.size; rw [ext_size _ _ (by omega)]; omega) (Conv.mk (by kernel_rfl)) (.cons_cons _ .slnil)
   ·have c2 : (((held + (cn p held)) : Int) ≠ (64 : Int)) := (beq_eq_false_iff_ne.1 c2r)
    have hpart : held + (cn p held) < 64 := by omega
    have hfd := feed_part (p.data.toList.take (cn p held)) hs bl held (by rw [part_len (by omega)]; omega)
    rw [part_len (by omega)] at hfd
    refine Cfg.again rfl (p.extract (cn p held) p.size,⟨hs,(lay bl held (p.data.toList.take (cn p held))),held + (cn p held)⟩) ⟨by rw [← hfd]; exact feed_ok _ ⟨hh,hb,hlt,hld⟩,by rw [← hfd,feed_ext]; exact hf⟩ (by show (p.extract (cn p held) p.size).size < p.size; rw [ext_size _ _ (by omega)]; omega) (Conv.mk (by kernel_rfl)) (.cons_cons _ .slnil)
  ·have c1 : (¬ ((p.size : Int) > (0 : Int))) := (of_decide_eq_false c1r)
   refine Cfg.fin rfl (rs := []) rfl [] trivial (fun w1 hp => ?_)
   have hp0 : p.size = 0 := by omega
   have hnil : p.data.toList = [] := List.eq_nil_of_length_eq_zero (by simpa using hp0)
   rw [hnil,feed_nil] at hf
   rw [← hf]
   exact ⟨rfl,hp.ext,hp.own (b,_) (List.mem_cons_self ..)⟩
end Go.Proofs.YtojefiolcedigaaGreatDoor
namespace Go.Proofs.YtojefiolcedigaaGreatDoor
open K
set_option linter.unusedVariables false
theorem shaWrite1 (b : Nat) (z : Sh) (total : Nat) (c : UInt8) {kt : Array Value} {t0 : TypeId} {fr0 : Nat × Nat} (w : World) (hx : z.Ok) (hR : Has w [(0,.cells kt t0 fr0)]) (hS : w.heap[b]? = some (.cells (stC z.hs z.bl z.held total) 151 (0,0))) (hne : b ≠ 0) (hK : KT kt := by assumption) :
  Calls Tryz.prog 79 #[.pointer (some ⟨b,0,none⟩),.string ⟨#[c]⟩] w fun e w' => e = .returned (.tuple #[]) ∧ Ext [b] w w' ∧ w'.heap[b]? = some (.cells (stC (feedB z c).hs (feedB z c).bl (feedB z c).held ((total + 1) % 18446744073709551616)) 151 (0,0)) :=
 shaWrite b z total ⟨#[c]⟩ w hx hR hS hne
set_option maxRecDepth 100000 in
theorem shaEndC (b : Nat) (z : Sh) (total : Nat) {kt : Array Value} {t0 : TypeId} {fr0 : Nat × Nat} (w : World) (hx : z.Ok) (hR : Has w [(0,.cells kt t0 fr0)]) (hS : w.heap[b]? = some (.cells (stC z.hs z.bl z.held total) 151 (0,0))) (hne : b ≠ 0) (hK : KT kt := by assumption) :
  Calls Tryz.prog 80 #[.pointer (some ⟨b,0,none⟩)] w fun e w' => e = .returned (.agg (bv (shaEnd z total))) ∧ Ext [b] w w' := by
 refine enter (vs := [.pointer (some ⟨b,0,none⟩)]) [b] [(0,.cells kt t0 fr0)] [(b,.cells (stC z.hs z.bl z.held total) 151 (0,0))] Tryz.func80 rfl (by kernel_rfl) (HP.startM hR hS (by simpa using hne)) ?_
 refine Cfg.begL rfl ?_
 refine CfgL.eff (o := _) rfl (by kernel_rfl) (by kernel_rfl) (Eff.alloc (z := (.agg (bv (List.replicate 32 0)))) rfl (by kernel_rfl)) ?_
 rintro r ⟨hr,nr⟩
 refine CfgL.done rfl ?_
 refine Cfg.reg rfl [0,2,3] [dZ,dZ,dZ,(0,false,some (.int .u64 (total : Int)))] (Γ' := [(3,[],.int .u64 (((total : Int) * 8) % 18446744073709551616)),(2,[],.pointer (some ⟨r,0,none⟩)),(0,[],.pointer (some ⟨b,0,none⟩))]) (nd := (fun S => [(∀ w1,S w1 → w1.cell? ⟨b,73,none⟩ = some (.int .u64 (total : Int)))])) (fun _ => by kernel_rfl) ⟨(fun w1 h => h.ocell 1 rfl (st_total hx.hh hx.hb)),trivial⟩ ?_
 refine Cfg.setG (congrArg (fun (xq : Int) => ([(3,[],.int .u64 xq),(2,[],.pointer (some ⟨r,0,none⟩)),(0,[],.pointer (some ⟨b,0,none⟩))] : Env)) (show _ = (lb total : Int) from lb_eq total)) ?_
 refine Cfg.begL rfl ?_
 refine CfgL.pure 1 [] none (Γ' := [(14,[],.pointer (some ⟨b,0,none⟩)),(3,[],.int .u64 (lb total : Int)),(2,[],.pointer (some ⟨r,0,none⟩)),(0,[],.pointer (some ⟨b,0,none⟩))]) (nd := (fun _ => [])) (by kernel_rfl) (fun _ => by kernel_rfl) trivial ?_
 refine CfgL.eff (o := _) rfl (by kernel_rfl) (by kernel_rfl) (Eff.callM (vs := [.pointer (some ⟨b,0,none⟩),.string ⟨#[128]⟩]) (.tuple #[]) 1 (b := b) (ob := .cells (stC z.hs z.bl z.held total) 151 (0,0)) (.cells (stC (feedB z 128).hs (feedB z 128).bl (feedB z 128).held ((total + 1) % 18446744073709551616)) 151 (0,0)) rfl Tryz.func79 rfl rfl (by kernel_rfl) (by kernel_rfl) (fun w1 h => shaWrite1 b z total 128 w1 hx (h.hasR (fun e he => he)) (h.own _ (List.mem_of_getElem? (i := 1) rfl)) hne)) ?_
 rintro ⟨⟩ -
 refine CfgL.done rfl ?_
 refine Conv.cfg (Γ' := [(3,[],.int .u64 (lb total : Int)),(2,[],.pointer (some ⟨r,0,none⟩)),(0,[],.pointer (some ⟨b,0,none⟩))]) (Conv.mk (by kernel_rfl)) ?_
 refine Cfg.setO (congrArg (fun (xq : Array Value) => ([(r,.cells (bv (List.replicate 32 0)) 30 (0,0)),(b,.cells xq 151 (0,0))] : List (Nat × Obj))) (show _ = (stC (pz z 0).hs (pz z 0).bl (pz z 0).held (tj total 0)) from by rw [pz_zero,tj_zero])) ?_
 refine Cfg.loop rfl (ι := Nat) (fun (j : Nat) => [(3,[],.int .u64 (lb total : Int)),(2,[],.pointer (some ⟨r,0,none⟩)),(0,[],.pointer (some ⟨b,0,none⟩))]) (fun (j : Nat) => [(r,.cells (bv (List.replicate 32 0)) 30 (0,0)),(b,.cells (stC (pz z j).hs (pz z j).bl (pz z j).held (tj total j)) 151 (0,0))]) (fun (j : Nat) => (j ≤ padN z)) (fun (j : Nat) => padN z - j) 0 ?_ (Conv.mk (by kernel_rfl)) (.cons_cons _ (.cons_cons _ .slnil)) ?_
 ·exact Nat.zero_le _
 ·rintro j hj
  refine Cfg.reg rfl [0,2,3,20] [dZ,dZ,dZ,(0,false,some (.int .i64 ((pz z j).held : Int)))] (Γ' := [(20,[],.bool (((pz z j).held : Int) != (56 : Int))),(3,[],.int .u64 (lb total : Int)),(2,[],.pointer (some ⟨r,0,none⟩)),(0,[],.pointer (some ⟨b,0,none⟩))]) (nd := (fun S => [(∀ w1,S w1 → w1.cell? ⟨b,72,none⟩ = some (.int .i64 ((pz z j).held : Int)))])) (fun _ => by kernel_rfl) ⟨(fun w1 h => h.ocell 1 rfl (st_held (pz_ok hx j).hh (pz_ok hx j).hb)),trivial⟩ ?_
  refine Cfg.cond rfl (b := (((pz z j).held : Int) != (56 : Int))) (by kernel_rfl) (fun c1r => ?_) (fun c1r => ?_)
  ·have c1 : (((pz z j).held : Int) ≠ (56 : Int)) := (bne_iff_ne.1 c1r)
   refine Cfg.begL rfl ?_
   refine CfgL.pure 1 [] (some [0,2,3,21]) (Γ' := [(21,[],.pointer (some ⟨b,0,none⟩)),(3,[],.int .u64 (lb total : Int)),(2,[],.pointer (some ⟨r,0,none⟩)),(0,[],.pointer (some ⟨b,0,none⟩))]) (nd := (fun _ => [])) (by kernel_rfl) (fun _ => by kernel_rfl) trivial ?_
   refine CfgL.eff (o := _) rfl (by kernel_rfl) (by kernel_rfl) (Eff.callM (vs := [.pointer (some ⟨b,0,none⟩),.string ⟨#[0]⟩]) (.tuple #[]) 1 (b := b) (ob := .cells (stC (pz z j).hs (pz z j).bl (pz z j).held (tj total j)) 151 (0,0)) (.cells (stC (feedB (pz z j) 0).hs (feedB (pz z j) 0).bl (feedB (pz z j) 0).held ((tj total j + 1) % 18446744073709551616)) 151 (0,0)) rfl Tryz.func79 rfl rfl (by kernel_rfl) (by kernel_rfl) (fun w1 h => shaWrite1 b (pz z j) (tj total j) 0 w1 (pz_ok hx j) (h.hasR (fun e he => he)) (h.own _ (List.mem_of_getElem? (i := 1) rfl)) hne)) ?_
   rintro ⟨⟩ -
   refine CfgL.done rfl ?_
   refine Conv.cfg (Γ' := [(3,[],.int .u64 (lb total : Int)),(2,[],.pointer (some ⟨r,0,none⟩)),(0,[],.pointer (some ⟨b,0,none⟩))]) (Conv.mk (by kernel_rfl)) ?_
   have hjn : j ≠ padN z := fun h => c1 ((pad_end hx hj).2 h)
   refine Cfg.setO (congrArg (fun (xq : Array Value) => ([(r,.cells (bv (List.replicate 32 0)) 30 (0,0)),(b,.cells xq 151 (0,0))] : List (Nat × Obj))) (show _ = (stC (pz z (j + 1)).hs (pz z (j + 1)).bl (pz z (j + 1)).held (tj total (j + 1))) from by rw [pz_succ,tj_succ])) ?_
   refine Cfg.again rfl (j + 1) (by show j + 1 ≤ padN z; omega) (by show padN z - (j + 1) < padN z - j; omega) (Conv.mk (by kernel_rfl)) (.cons_cons _ (.cons_cons _ .slnil))
  ·have c1 : (((pz z j).held : Int) = (56 : Int)) := (bne_eq_false_iff_eq.1 c1r)
   obtain rfl : j = padN z := (pad_end hx hj).1 c1
   refine Cfg.begL rfl ?_
   refine CfgL.eff (o := _) rfl (by kernel_rfl) (by kernel_rfl) (Eff.alloc (z := (.agg (bv (List.replicate 8 0)))) rfl (by kernel_rfl)) ?_
   rintro tl ⟨htl,ntl⟩
   refine CfgL.done rfl ?_
   refine Conv.cfg (Γ' := [(4,[],.pointer (some ⟨tl,0,none⟩)),(3,[],.int .u64 (lb total : Int)),(2,[],.pointer (some ⟨r,0,none⟩)),(0,[],.pointer (some ⟨b,0,none⟩))]) (Conv.mk (by kernel_rfl)) ?_
   refine Cfg.reg rfl [0,2,3,4,23] [] (Γ' := [(23,[],.int .i64 0),(4,[],.pointer (some ⟨tl,0,none⟩)),(3,[],.int .u64 (lb total : Int)),(2,[],.pointer (some ⟨r,0,none⟩)),(0,[],.pointer (some ⟨b,0,none⟩))]) (nd := (fun _ => [])) (fun _ => by kernel_rfl) trivial ?_
   refine Cfg.loop rfl (ι := Nat) (fun (k1 : Nat) => [(23,[],.int .i64 (k1 : Int)),(4,[],.pointer (some ⟨tl,0,none⟩)),(3,[],.int .u64 (lb total : Int)),(2,[],.pointer (some ⟨r,0,none⟩)),(0,[],.pointer (some ⟨b,0,none⟩))]) (fun (k1 : Nat) => [(tl,.cells (bv (tlr (lb total) k1)) 146 (0,0)),(r,.cells (bv (List.replicate 32 0)) 30 (0,0)),(b,.cells (stC (pz z (padN z)).hs (pz z (padN z)).bl (pz z (padN z)).held (tj total (padN z))) 151 (0,0))]) (fun (k1 : Nat) => (k1 ≤ 8)) (fun (k1 : Nat) => 8 - k1) 0 ?_ (Conv.mk (by kernel_rfl)) (.cons_cons _ (.cons_cons _ (.cons_cons _ .slnil))) ?_
   ·exact Nat.zero_le _
   ·rintro k1 hk1
    refine Cfg.reg rfl [0,2,3,4,23,24] [] (Γ' := [(24,[],.bool (decide ((k1 : Int) < (8 : Int)))),(23,[],.int .i64 (k1 : Int)),(4,[],.pointer (some ⟨tl,0,none⟩)),(3,[],.int .u64 (lb total : Int)),(2,[],.pointer (some ⟨r,0,none⟩)),(0,[],.pointer (some ⟨b,0,none⟩))]) (nd := (fun _ => [])) (fun _ => by kernel_rfl) trivial ?_
    refine Cfg.cond rfl (b := (decide ((k1 : Int) < (8 : Int)))) (by kernel_rfl) (fun c2r => ?_) (fun c2r => ?_)
    ·have c2 : ((k1 : Int) < (8 : Int)) := (of_decide_eq_true c2r)
     refine Cfg.reg rfl [0,2,3,4,5,23] [] (Γ' := [(5,[],.int .i64 (k1 : Int)),(23,[],.int .i64 (k1 : Int)),(4,[],.pointer (some ⟨tl,0,none⟩)),(3,[],.int .u64 (lb total : Int)),(2,[],.pointer (some ⟨r,0,none⟩)),(0,[],.pointer (some ⟨b,0,none⟩))]) (nd := (fun _ => [])) (fun _ => by kernel_rfl) trivial ?_
     refine Cfg.begL rfl ?_
     refine CfgL.pure 8 [] (some [0,2,3,4,23,32,33]) (Γ' := [(33,[],.pointer (some ⟨tl,k1,none⟩)),(32,[],.int .u8 (((lb total : Int) / ((2 ^ ((56 - (8 * (k1 : Int)))).toNat : Nat) : Int)) % 256)),(23,[],.int .i64 (k1 : Int)),(4,[],.pointer (some ⟨tl,0,none⟩)),(3,[],.int .u64 (lb total : Int)),(2,[],.pointer (some ⟨r,0,none⟩)),(0,[],.pointer (some ⟨b,0,none⟩))]) (nd := (fun _ => [((-9223372036854775808 : Int) ≤ (8 * (k1 : Int)) ∧ (8 * (k1 : Int)) ≤ 9223372036854775807),((-9223372036854775808 : Int) ≤ (56 - (8 * (k1 : Int))) ∧ (56 - (8 * (k1 : Int))) ≤ 9223372036854775807),(0 ≤ (56 - (8 * (k1 : Int))) ∧ ((56 - (8 * (k1 : Int)))).toNat ≤ 64),(0 ≤ (k1 : Int) ∧ (k1 : Int) < (8 : Int))])) (by kernel_rfl) (fun _ => by kernel_rfl) ⟨(by omega),(by omega),(by omega),(by omega),trivial⟩ ?_
     refine CfgL.eff (o := _) rfl (by kernel_rfl) (by kernel_rfl) (Eff.store1 (b := tl) (off := k1) (v := .int .u8 (((lb total : Int) / ((2 ^ ((56 - (8 * (k1 : Int)))).toNat : Nat) : Int)) % 256)) rfl (by kernel_rfl) (by kernel_rfl) rfl (by kernel_rfl) 0 (cs := (bv (tlr (lb total) k1))) (e := 146) (by kernel_rfl) (by rw [bv_size,tlr_len hk1]; omega)) ?_
     rintro ⟨⟩ -
     refine CfgL.done rfl ?_
     refine Conv.cfg (Γ' := [(23,[],.int .i64 (k1 : Int)),(4,[],.pointer (some ⟨tl,0,none⟩)),(3,[],.int .u64 (lb total : Int)),(2,[],.pointer (some ⟨r,0,none⟩)),(0,[],.pointer (some ⟨b,0,none⟩))]) (Conv.mk (by kernel_rfl)) ?_
     refine Cfg.reg rfl [0,2,3,4,23] [] (Γ' := [(23,[],.int .i64 ((k1 : Int) + 1)),(4,[],.pointer (some ⟨tl,0,none⟩)),(3,[],.int .u64 (lb total : Int)),(2,[],.pointer (some ⟨r,0,none⟩)),(0,[],.pointer (some ⟨b,0,none⟩))]) (nd := (fun _ => [((-9223372036854775808 : Int) ≤ ((k1 : Int) + 1) ∧ ((k1 : Int) + 1) ≤ 9223372036854775807)])) (fun _ => by kernel_rfl) ⟨(by omega),trivial⟩ ?_
     refine Cfg.setO (congrArg (fun (xq : Array Value) => ([(tl,.cells xq 146 (0,0)),(r,.cells (bv (List.replicate 32 0)) 30 (0,0)),(b,.cells (stC (pz z (padN z)).hs (pz z (padN z)).bl (pz z (padN z)).held (tj total (padN z))) 151 (0,0))] : List (Nat × Obj))) (show _ = (bv (tlr (lb total) (k1 + 1))) from tlr_step (by omega) rfl)) ?_
     refine Cfg.again rfl (k1 + 1) (by show k1 + 1 ≤ 8; omega) (by show 8 - (k1 + 1) < 8 - k1; omega) (Conv.mk (by kernel_rfl)) (.cons_cons _ (.cons_cons _ (.cons_cons _ .slnil)))
    ·have c2 : (¬ ((k1 : Int) < (8 : Int))) := (of_decide_eq_false c2r)
     obtain rfl : k1 = 8 := by omega
     refine Conv.cfg (Γ' := [(4,[],.pointer (some ⟨tl,0,none⟩)),(3,[],.int .u64 (lb total : Int)),(2,[],.pointer (some ⟨r,0,none⟩)),(0,[],.pointer (some ⟨b,0,none⟩))]) (Conv.mk (by kernel_rfl)) ?_
     refine Cfg.begL rfl ?_
     refine CfgL.pure 3 [dZ,dZ,(0,false,some (.string (tls (lb total))))] (some [0,2,35,37]) (Γ' := [(37,[],.string (tls (lb total))),(35,[],.pointer (some ⟨b,0,none⟩)),(2,[],.pointer (some ⟨r,0,none⟩)),(0,[],.pointer (some ⟨b,0,none⟩))]) (nd := (fun S => [(8 ≤ 8),(∀ w1,S w1 → (Conv.bytesToString (.slice (some ⟨tl,0,none⟩) 8 8)).run Tryz.prog w1 = .ok (.string (tls (lb total))) w1)])) (by kernel_rfl) (fun _ => by kernel_rfl) ⟨(by omega),(fun w1 h => h.ostr 0 rfl (tlr_len (Nat.le_refl 8))),trivial⟩ ?_
     refine CfgL.eff (o := _) rfl (by kernel_rfl) (by kernel_rfl) (Eff.callM (vs := [.pointer (some ⟨b,0,none⟩),.string (tls (lb total))]) (.tuple #[]) 2 (b := b) (ob := .cells (stC (pz z (padN z)).hs (pz z (padN z)).bl (pz z (padN z)).held (tj total (padN z))) 151 (0,0)) (.cells (stC (z3 z total).hs (z3 z total).bl (z3 z total).held ((tj total (padN z) + (tls (lb total)).size) % 18446744073709551616)) 151 (0,0)) rfl Tryz.func79 rfl rfl (by kernel_rfl) (by kernel_rfl) (fun w1 h => shaWrite b (pz z (padN z)) (tj total (padN z)) (tls (lb total)) w1 (pz_ok hx _) (h.hasR (fun e he => he)) (h.own _ (List.mem_of_getElem? (i := 2) rfl)) hne)) ?_
     rintro ⟨⟩ -
     refine CfgL.done rfl ?_
     refine Conv.cfg (Γ' := [(2,[],.pointer (some ⟨r,0,none⟩)),(0,[],.pointer (some ⟨b,0,none⟩))]) (Conv.mk (by kernel_rfl)) ?_
     refine Cfg.begL rfl ?_
     refine CfgL.eff (o := _) rfl (by kernel_rfl) (by kernel_rfl) (Eff.alloc (z := (.agg (bv (List.replicate 32 0)))) rfl (by kernel_rfl)) ?_
     rintro d ⟨hd,nd⟩
     refine CfgL.done rfl ?_
     refine Cfg.reg rfl [2,6,42,43] [dZ,dZ,dZ,(0,false,some (.agg (wv (z3 z total).hs)))] (Γ' := [(43,[],.int .i64 0),(42,[],.agg (wv (z3 z total).hs)),(6,[],.pointer (some ⟨d,0,none⟩)),(2,[],.pointer (some ⟨r,0,none⟩))]) (nd := (fun S => [(∀ w1,S w1 → (loadVar 148 ⟨b,0,none⟩).run Tryz.prog w1 = .ok (.agg (wv (z3 z total).hs)) w1)])) (fun _ => by kernel_rfl) ⟨(fun w1 h => load_words Tryz.underlying148 rfl (by kernel_rfl) (z3_ok hx total).hh (fun j hj => h.ocell 3 rfl (by rw [Nat.zero_add]; exact st_sum (z3_ok hx total).hh hj))),trivial⟩ ?_
     refine Cfg.loop rfl (ι := Nat) (fun (k2 : Nat) => [(43,[],.int .i64 (k2 : Int)),(42,[],.agg (wv (z3 z total).hs)),(6,[],.pointer (some ⟨d,0,none⟩)),(2,[],.pointer (some ⟨r,0,none⟩))]) (fun (k2 : Nat) => [(d,.cells (bv (dgr (z3 z total).hs k2)) 30 (0,0)),(tl,.cells (bv (tlr (lb total) 8)) 146 (0,0)),(r,.cells (bv (List.replicate 32 0)) 30 (0,0)),(b,.cells (stC (z3 z total).hs (z3 z total).bl (z3 z total).held ((tj total (padN z) + (tls (lb total)).size) % 18446744073709551616)) 151 (0,0))]) (fun (k2 : Nat) => (k2 ≤ 8)) (fun (k2 : Nat) => 8 - k2) 0 ?_ (Conv.mk (by kernel_rfl)) (.cons_cons _ (.cons_cons _ (.cons_cons _ (.cons_cons _ .slnil)))) ?_
     ·exact Nat.zero_le _
     ·rintro k2 hk2
      refine Cfg.reg rfl [2,6,42,43,44] [] (Γ' := [(44,[],.bool (decide ((k2 : Int) < (8 : Int)))),(43,[],.int .i64 (k2 : Int)),(42,[],.agg (wv (z3 z total).hs)),(6,[],.pointer (some ⟨d,0,none⟩)),(2,[],.pointer (some ⟨r,0,none⟩))]) (nd := (fun _ => [])) (fun _ => by kernel_rfl) trivial ?_
      refine Cfg.cond rfl (b := (decide ((k2 : Int) < (8 : Int)))) (by kernel_rfl) (fun c3r => ?_) (fun c3r => ?_)
      ·have c3 : ((k2 : Int) < (8 : Int)) := (of_decide_eq_true c3r)
       refine Cfg.reg rfl [2,6,7,8,42,43] [dZ,(0,false,some (.int .u32 (rg (z3 z total).hs k2 : Int)))] (Γ' := [(8,[],.int .u32 (rg (z3 z total).hs k2 : Int)),(7,[],.int .i64 (k2 : Int)),(43,[],.int .i64 (k2 : Int)),(42,[],.agg (wv (z3 z total).hs)),(6,[],.pointer (some ⟨d,0,none⟩)),(2,[],.pointer (some ⟨r,0,none⟩))]) (nd := (fun _ => [(0 ≤ (k2 : Int) ∧ (k2 : Int) < (8 : Int)),(((wv (z3 z total).hs))[k2]? = some (.int .u32 (rg (z3 z total).hs k2 : Int)))])) (fun _ => by kernel_rfl) ⟨(by omega),(wv_get (z3_ok hx total).hh (by omega)),trivial⟩ ?_
       refine Cfg.begL rfl ?_
       refine CfgL.pure 6 [] (some [2,6,7,8,42,43,51,52]) (Γ' := [(52,[],.pointer (some ⟨d,(4 * k2),none⟩)),(51,[],.int .u8 (((rg (z3 z total).hs k2 : Int) / 16777216) % 256)),(8,[],.int .u32 (rg (z3 z total).hs k2 : Int)),(7,[],.int .i64 (k2 : Int)),(43,[],.int .i64 (k2 : Int)),(42,[],.agg (wv (z3 z total).hs)),(6,[],.pointer (some ⟨d,0,none⟩)),(2,[],.pointer (some ⟨r,0,none⟩))]) (nd := (fun _ => [((-9223372036854775808 : Int) ≤ (4 * (k2 : Int)) ∧ (4 * (k2 : Int)) ≤ 9223372036854775807),(0 ≤ (24 : Int) ∧ 24 ≤ 32),(0 ≤ (4 * (k2 : Int)) ∧ (4 * (k2 : Int)) < (32 : Int))])) (by kernel_rfl) (fun _ => by kernel_rfl) ⟨(by omega),(by omega),(by omega),trivial⟩ ?_
       refine CfgL.eff (o := _) rfl (by kernel_rfl) (by kernel_rfl) (Eff.store1 (b := d) (off := (4 * k2)) (v := .int .u8 (((rg (z3 z total).hs k2 : Int) / 16777216) % 256)) rfl (by kernel_rfl) (by kernel_rfl) rfl (by kernel_rfl) 0 (cs := (bv (dgr (z3 z total).hs k2))) (e := 30) (by kernel_rfl) (by first | (rw [dsz _ hk2]; omega) | (simp only [Array.size_setIfInBounds,dsz _ hk2]; omega))) ?_
       rintro ⟨⟩ -
       refine CfgL.done rfl ?_
       refine Conv.cfg (Γ' := [(8,[],.int .u32 (rg (z3 z total).hs k2 : Int)),(7,[],.int .i64 (k2 : Int)),(43,[],.int .i64 (k2 : Int)),(42,[],.agg (wv (z3 z total).hs)),(6,[],.pointer (some ⟨d,0,none⟩)),(2,[],.pointer (some ⟨r,0,none⟩))]) (Conv.mk (by kernel_rfl)) ?_
       refine Cfg.begL rfl ?_
       refine CfgL.pure 7 [] (some [2,6,7,8,42,43,58,59]) (Γ' := [(59,[],.pointer (some ⟨d,((4 * k2) + 1),none⟩)),(58,[],.int .u8 (((rg (z3 z total).hs k2 : Int) / 65536) % 256)),(8,[],.int .u32 (rg (z3 z total).hs k2 : Int)),(7,[],.int .i64 (k2 : Int)),(43,[],.int .i64 (k2 : Int)),(42,[],.agg (wv (z3 z total).hs)),(6,[],.pointer (some ⟨d,0,none⟩)),(2,[],.pointer (some ⟨r,0,none⟩))]) (nd := (fun _ => [((-9223372036854775808 : Int) ≤ (4 * (k2 : Int)) ∧ (4 * (k2 : Int)) ≤ 9223372036854775807),((-9223372036854775808 : Int) ≤ ((4 * (k2 : Int)) + 1) ∧ ((4 * (k2 : Int)) + 1) ≤ 9223372036854775807),(0 ≤ (16 : Int) ∧ 16 ≤ 32),(0 ≤ ((4 * (k2 : Int)) + 1) ∧ ((4 * (k2 : Int)) + 1) < (32 : Int))])) (by kernel_rfl) (fun _ => by kernel_rfl) ⟨(by omega),(by omega),(by omega),(by omega),trivial⟩ ?_
       refine CfgL.eff (o := _) rfl (by kernel_rfl) (by kernel_rfl) (Eff.store1 (b := d) (off := ((4 * k2) + 1)) (v := .int .u8 (((rg (z3 z total).hs k2 : Int) / 65536) % 256)) rfl (by kernel_rfl) (by kernel_rfl) rfl (by kernel_rfl) 0 (cs := ((bv (dgr (z3 z total).hs k2)).setIfInBounds (4 * k2) (.int .u8 (((rg (z3 z total).hs k2 : Int) / 16777216) % 256)))) (e := 30) (by kernel_rfl) (by first | (rw [dsz _ hk2]; omega) | (simp only [Array.size_setIfInBounds,dsz _ hk2]; omega))) ?_
       rintro ⟨⟩ -
       refine CfgL.done rfl ?_
       refine Conv.cfg (Γ' := [(8,[],.int .u32 (rg (z3 z total).hs k2 : Int)),(7,[],.int .i64 (k2 : Int)),(43,[],.int .i64 (k2 : Int)),(42,[],.agg (wv (z3 z total).hs)),(6,[],.pointer (some ⟨d,0,none⟩)),(2,[],.pointer (some ⟨r,0,none⟩))]) (Conv.mk (by kernel_rfl)) ?_
       refine Cfg.begL rfl ?_
       refine CfgL.pure 7 [] (some [2,6,7,8,42,43,65,66]) (Γ' := [(66,[],.pointer (some ⟨d,((4 * k2) + 2),none⟩)),(65,[],.int .u8 (((rg (z3 z total).hs k2 : Int) / 256) % 256)),(8,[],.int .u32 (rg (z3 z total).hs k2 : Int)),(7,[],.int .i64 (k2 : Int)),(43,[],.int .i64 (k2 : Int)),(42,[],.agg (wv (z3 z total).hs)),(6,[],.pointer (some ⟨d,0,none⟩)),(2,[],.pointer (some ⟨r,0,none⟩))]) (nd := (fun _ => [((-9223372036854775808 : Int) ≤ (4 * (k2 : Int)) ∧ (4 * (k2 : Int)) ≤ 9223372036854775807),((-9223372036854775808 : Int) ≤ ((4 * (k2 : Int)) + 2) ∧ ((4 * (k2 : Int)) + 2) ≤ 9223372036854775807),(0 ≤ (8 : Int) ∧ 8 ≤ 32),(0 ≤ ((4 * (k2 : Int)) + 2) ∧ ((4 * (k2 : Int)) + 2) < (32 : Int))])) (by kernel_rfl) (fun _ => by kernel_rfl) ⟨(by omega),(by omega),(by omega),(by omega),trivial⟩ ?_
       refine CfgL.eff (o := _) rfl (by kernel_rfl) (by kernel_rfl) (Eff.store1 (b := d) (off := ((4 * k2) + 2)) (v := .int .u8 (((rg (z3 z total).hs k2 : Int) / 256) % 256)) rfl (by kernel_rfl) (by kernel_rfl) rfl (by kernel_rfl) 0 (cs := (((bv (dgr (z3 z total).hs k2)).setIfInBounds (4 * k2) (.int .u8 (((rg (z3 z total).hs k2 : Int) / 16777216) % 256))).setIfInBounds ((4 * k2) + 1) (.int .u8 (((rg (z3 z total).hs k2 : Int) / 65536) % 256)))) (e := 30) (by kernel_rfl) (by first | (rw [dsz _ hk2]; omega) | (simp only [Array.size_setIfInBounds,dsz _ hk2]; omega))) ?_
       rintro ⟨⟩ -
       refine CfgL.done rfl ?_
       refine Conv.cfg (Γ' := [(8,[],.int .u32 (rg (z3 z total).hs k2 : Int)),(7,[],.int .i64 (k2 : Int)),(43,[],.int .i64 (k2 : Int)),(42,[],.agg (wv (z3 z total).hs)),(6,[],.pointer (some ⟨d,0,none⟩)),(2,[],.pointer (some ⟨r,0,none⟩))]) (Conv.mk (by kernel_rfl)) ?_
       refine Cfg.begL rfl ?_
       refine CfgL.pure 6 [] (some [2,6,42,43,71,72]) (Γ' := [(72,[],.pointer (some ⟨d,((4 * k2) + 3),none⟩)),(71,[],.int .u8 ((rg (z3 z total).hs k2 : Int) % 256)),(43,[],.int .i64 (k2 : Int)),(42,[],.agg (wv (z3 z total).hs)),(6,[],.pointer (some ⟨d,0,none⟩)),(2,[],.pointer (some ⟨r,0,none⟩))]) (nd := (fun _ => [((-9223372036854775808 : Int) ≤ (4 * (k2 : Int)) ∧ (4 * (k2 : Int)) ≤ 9223372036854775807),((-9223372036854775808 : Int) ≤ ((4 * (k2 : Int)) + 3) ∧ ((4 * (k2 : Int)) + 3) ≤ 9223372036854775807),(0 ≤ ((4 * (k2 : Int)) + 3) ∧ ((4 * (k2 : Int)) + 3) < (32 : Int))])) (by kernel_rfl) (fun _ => by kernel_rfl) ⟨(by omega),(by omega),(by omega),trivial⟩ ?_
       refine CfgL.eff (o := _) rfl (by kernel_rfl) (by kernel_rfl) (Eff.store1 (b := d) (off := ((4 * k2) + 3)) (v := .int .u8 ((rg (z3 z total).hs k2 : Int) % 256)) rfl (by kernel_rfl) (by kernel_rfl) rfl (by kernel_rfl) 0 (cs := ((((bv (dgr (z3 z total).hs k2)).setIfInBounds (4 * k2) (.int .u8 (((rg (z3 z total).hs k2 : Int) / 16777216) % 256))).setIfInBounds ((4 * k2) + 1) (.int .u8 (((rg (z3 z total).hs k2 : Int) / 65536) % 256))).setIfInBounds ((4 * k2) + 2) (.int .u8 (((rg (z3 z total).hs k2 : Int) / 256) % 256)))) (e := 30) (by kernel_rfl) (by first | (rw [dsz _ hk2]; omega) | (simp only [Array.size_setIfInBounds,dsz _ hk2]; omega))) ?_
       rintro ⟨⟩ -
       refine CfgL.done rfl ?_
       refine Conv.cfg (Γ' := [(43,[],.int .i64 (k2 : Int)),(42,[],.agg (wv (z3 z total).hs)),(6,[],.pointer (some ⟨d,0,none⟩)),(2,[],.pointer (some ⟨r,0,none⟩))]) (Conv.mk (by kernel_rfl)) ?_
       refine Cfg.reg rfl [2,6,42,43] [] (Γ' := [(43,[],.int .i64 ((k2 : Int) + 1)),(42,[],.agg (wv (z3 z total).hs)),(6,[],.pointer (some ⟨d,0,none⟩)),(2,[],.pointer (some ⟨r,0,none⟩))]) (nd := (fun _ => [((-9223372036854775808 : Int) ≤ ((k2 : Int) + 1) ∧ ((k2 : Int) + 1) ≤ 9223372036854775807)])) (fun _ => by kernel_rfl) ⟨(by omega),trivial⟩ ?_
       refine Cfg.setO (congrArg (fun (xq : Array Value) => ([(d,.cells xq 30 (0,0)),(tl,.cells (bv (tlr (lb total) 8)) 146 (0,0)),(r,.cells (bv (List.replicate 32 0)) 30 (0,0)),(b,.cells (stC (z3 z total).hs (z3 z total).bl (z3 z total).held ((tj total (padN z) + (tls (lb total)).size) % 18446744073709551616)) 151 (0,0))] : List (Nat × Obj))) (show _ = (bv (dgr (z3 z total).hs (k2 + 1))) from dgr_step _ (by omega) rfl rfl rfl rfl)) ?_
       refine Cfg.again rfl (k2 + 1) (by show k2 + 1 ≤ 8; omega) (by show 8 - (k2 + 1) < 8 - k2; omega) (Conv.mk (by kernel_rfl)) (.cons_cons _ (.cons_cons _ (.cons_cons _ (.cons_cons _ .slnil))))
      ·have c3 : (¬ ((k2 : Int) < (8 : Int))) := (of_decide_eq_false c3r)
       refine Cfg.begL rfl ?_
       refine CfgL.pure 1 [(0,false,some (.agg (bv (dgr (z3 z total).hs k2))))] (some [2,74]) (Γ' := [(74,[],.agg (bv (dgr (z3 z total).hs k2))),(2,[],.pointer (some ⟨r,0,none⟩))]) (nd := (fun S => [(∀ w1,S w1 → (loadVar 30 ⟨d,0,none⟩).run Tryz.prog w1 = .ok (.agg (bv (dgr (z3 z total).hs k2))) w1)])) (by kernel_rfl) (fun _ => by kernel_rfl) ⟨(fun w1 h => h.oload 0 rfl Tryz.underlying30 rfl (n := 32) (by kernel_rfl) (dsz _ hk2)),trivial⟩ ?_
       refine CfgL.eff (o := _) rfl (by kernel_rfl) (by kernel_rfl) (Eff.storeN (b := r) (off := 0) (vs := (bv (dgr (z3 z total).hs k2))) (n := 32) rfl (by kernel_rfl) (by kernel_rfl) (by kernel_rfl) (dsz _ hk2) (all_bv _) 2 (cs := (bv (List.replicate 32 0))) (e := 30) (by kernel_rfl) (by rw [zsz]; omega)) ?_
       rintro ⟨⟩ -
       refine CfgL.setO (congrArg (fun (xq : Array Value) => ([(d,.cells (bv (dgr (z3 z total).hs k2)) 30 (0,0)),(tl,.cells (bv (tlr (lb total) 8)) 146 (0,0)),(r,.cells xq 30 (0,0)),(b,.cells (stC (z3 z total).hs (z3 z total).bl (z3 z total).held ((tj total (padN z) + (tls (lb total)).size) % 18446744073709551616)) 151 (0,0))] : List (Nat × Obj))) (show _ = (bv (dgr (z3 z total).hs k2)) from spl_all ((dsz _ hk2).trans zsz.symm))) ?_
       refine CfgL.done rfl ?_
       refine Conv.cfg (Γ' := [(2,[],.pointer (some ⟨r,0,none⟩))]) (Conv.mk (by kernel_rfl)) ?_
       refine Cfg.ret rfl (rs := [.cell 2 30]) rfl [.agg (bv (dgr (z3 z total).hs k2))] ⟨⟨_,by kernel_rfl,(fun w1 h => h.oload 2 rfl Tryz.underlying30 rfl (n := 32) (by kernel_rfl) (dsz _ hk2))⟩,trivial⟩ (fun w1 hp => ?_)
       obtain rfl : k2 = 8 := by omega
       exact ⟨rfl,hp.ext⟩
end Go.Proofs.YtojefiolcedigaaGreatDoor
namespace Go.Proofs.YtojefiolcedigaaGreatDoor
open K
set_option linter.unusedVariables false
set_option maxRecDepth 100000 in
theorem shaBegin (w : World) :
  Calls Tryz.prog 78 #[] w fun e w' => ∃ b : Nat,True ∧ e = .returned (.pointer (some ⟨b,0,none⟩)) ∧ w.heap.size ≤ b ∧ w'.heap[b]? = some (.cells (stC H8 (List.replicate 64 0) 0 0) 151 (0,0)) ∧ Ext [] w w' := by
 refine enter (vs := []) [] [] [] Tryz.func78 rfl (by kernel_rfl) (HP.start w) ?_
 refine Cfg.reg rfl [] [] (Γ' := []) (nd := (fun _ => [])) (fun _ => by kernel_rfl) trivial ?_
 refine Cfg.begL rfl ?_
 refine CfgL.pure 2 [(0,false,some (.agg (wv H8))),(0,false,some (.agg (stC H8 (List.replicate 64 0) 0 0)))] (some [2]) (Γ' := [(2,[],.agg (stC H8 (List.replicate 64 0) 0 0))]) (nd := (fun S => [(∀ w1,S w1 → (Instr.build 148 #[(0,.int .u32 1779033703),(1,.int .u32 3144134277),(2,.int .u32 1013904242),(3,.int .u32 2773480762),(4,.int .u32 1359893119),(5,.int .u32 2600822924),(6,.int .u32 528734635),(7,.int .u32 1541459225)]).run Tryz.prog w1 = .ok (.agg (wv H8)) w1),(∀ w1,S w1 → (Instr.build 151 #[(0,.agg (wv H8))]).run Tryz.prog w1 = .ok (.agg (stC H8 (List.replicate 64 0) 0 0)) w1)])) (by kernel_rfl) (fun _ => by kernel_rfl) ⟨(fun _ _ => by kernel_rfl),(fun _ _ => by kernel_rfl),trivial⟩ ?_
 refine CfgL.eff (o := _) rfl (by kernel_rfl) (by kernel_rfl) (Eff.box (v := .agg (stC H8 (List.replicate 64 0) 0 0)) rfl (by kernel_rfl)) ?_
 rintro b1 ⟨hb1,nb1⟩
 refine CfgL.pure 1 [] (some [0]) (Γ' := [(0,[],.pointer (some ⟨b1,0,none⟩))]) (nd := (fun _ => [])) (by kernel_rfl) (fun _ => by kernel_rfl) trivial ?_
 refine CfgL.done rfl ?_
 refine Cfg.ret rfl (rs := [.tmp 0]) rfl [.pointer (some ⟨b1,0,none⟩)] ⟨by kernel_rfl,trivial⟩ (fun w1 hp => ?_)
 exact ⟨b1,trivial,rfl,hb1,hp.own (b1,_) (List.mem_cons_self ..),hp.ext⟩
set_option maxRecDepth 100000 in
theorem shaSum (la : Option Addr) (cap : Nat) (ss : List ByteArray) (Rl : List (Nat × Obj)) {kt : Array Value} {t0 : TypeId} {fr0 : Nat × Nat} (w : World) (hI : InS Rl la ss.length (fun j => .string (sat ss j))) (hn : ss.length ≤ maxLen) (hR : Has w ((0,.cells kt t0 fr0) :: Rl)) (hK : KT kt := by assumption) :
  Calls Tryz.prog 38 #[.slice la ss.length cap] w fun e w' => e = .returned (.agg (bv (shaD (cat ss)))) ∧ Ext [] w w' := by
 unfold maxLen at hn
 have h0 : 0 < w.heap.size := lt_of_get (hR _ (List.mem_cons_self ..))
 refine enter (vs := [.slice la ss.length cap]) [] ((0,.cells kt t0 fr0) :: Rl) [] Tryz.func38 rfl (by kernel_rfl) (HP.ofHas hR) ?_
 refine Cfg.begL rfl ?_
 refine CfgL.eff (o := _) rfl (by kernel_rfl) (by kernel_rfl) (Eff.alloc (z := (.agg (bv (List.replicate 32 0)))) rfl (by kernel_rfl)) ?_
 rintro r ⟨hr,nr⟩
 refine CfgL.done rfl ?_
 refine Cfg.begL rfl ?_
 refine CfgL.eff (o := _) rfl (by kernel_rfl) (by kernel_rfl) (Eff.callN (vs := []) (fun b : Nat => .pointer (some ⟨b,0,none⟩)) (fun b => b) (fun _ => .cells (stC H8 (List.replicate 64 0) 0 0) 151 (0,0)) (fun _ => True) rfl Tryz.func78 rfl rfl (by kernel_rfl) (fun w1 _ => shaBegin w1)) ?_
 rintro b ⟨-,hb,nb⟩
 have hne : b ≠ 0 := by have : w.heap.size ≤ b := hb; omega
 refine CfgL.pure 1 [] (some [0,2,3]) (Γ' := [(3,[],.pointer (some ⟨b,0,none⟩)),(2,[],.pointer (some ⟨r,0,none⟩)),(0,[],.slice la ss.length cap)]) (nd := (fun _ => [])) (by kernel_rfl) (fun _ => by kernel_rfl) trivial ?_
 refine CfgL.done rfl ?_
 refine Cfg.reg rfl [2,3,7,8,9] [] (Γ' := [(9,[],.int .i64 0),(8,[],.int .i64 (ss.length : Int)),(7,[],.slice la ss.length cap),(3,[],.pointer (some ⟨b,0,none⟩)),(2,[],.pointer (some ⟨r,0,none⟩))]) (nd := (fun _ => [])) (fun _ => by kernel_rfl) trivial ?_
 refine Cfg.loop rfl (ι := Nat) (fun (i : Nat) => [(9,[],.int .i64 (i : Int)),(8,[],.int .i64 (ss.length : Int)),(7,[],.slice la ss.length cap),(3,[],.pointer (some ⟨b,0,none⟩)),(2,[],.pointer (some ⟨r,0,none⟩))]) (fun (i : Nat) => [(b,.cells (stC (sz ss i).hs (sz ss i).bl (sz ss i).held (tt ss i)) 151 (0,0)),(r,.cells (bv (List.replicate 32 0)) 30 (0,0))]) (fun (i : Nat) => (i ≤ ss.length)) (fun (i : Nat) => ss.length - i) 0 ?_ (Conv.mk (by kernel_rfl)) (.cons_cons _ (.cons_cons _ .slnil)) ?_
 ·exact Nat.zero_le _
 ·rintro i hi
  refine Cfg.reg rfl [2,3,7,8,9,10] [] (Γ' := [(10,[],.bool (decide ((i : Int) < (ss.length : Int)))),(9,[],.int .i64 (i : Int)),(8,[],.int .i64 (ss.length : Int)),(7,[],.slice la ss.length cap),(3,[],.pointer (some ⟨b,0,none⟩)),(2,[],.pointer (some ⟨r,0,none⟩))]) (nd := (fun _ => [])) (fun _ => by kernel_rfl) trivial ?_
  refine Cfg.cond rfl (b := (decide ((i : Int) < (ss.length : Int)))) (by kernel_rfl) (fun c1r => ?_) (fun c1r => ?_)
  ·have c1 : ((i : Int) < (ss.length : Int)) := (of_decide_eq_true c1r)
   obtain ⟨sb,off,cs,te,fre,rfl,hmem,hcs⟩ := hI (by omega)
   refine Conv.cfg (Γ' := [(10,[],.bool (decide ((i : Int) < (ss.length : Int)))),(9,[],.int .i64 (i : Int)),(8,[],.int .i64 (ss.length : Int)),(7,[],.slice (some ⟨sb,off,none⟩) ss.length cap),(3,[],.pointer (some ⟨b,0,none⟩)),(2,[],.pointer (some ⟨r,0,none⟩))]) (Conv.mk (by kernel_rfl)) ?_
   refine Cfg.reg rfl [2,3,5,7,8,9] [dZ,(0,false,some (.string (sat ss i)))] (Γ' := [(5,[],.string (sat ss i)),(9,[],.int .i64 (i : Int)),(8,[],.int .i64 (ss.length : Int)),(7,[],.slice (some ⟨sb,off,none⟩) ss.length cap),(3,[],.pointer (some ⟨b,0,none⟩)),(2,[],.pointer (some ⟨r,0,none⟩))]) (nd := (fun S => [(0 ≤ (i : Int) ∧ (i : Int) < (ss.length : Int)),(∀ w1,S w1 → w1.cell? ⟨sb,(addO off i),none⟩ = some (.string (sat ss i)))])) (fun _ => by kernel_rfl) ⟨(by omega),(fun w1 h => by rw [addO_eq]; exact (cell_cells (h.ro _ (List.mem_cons_of_mem _ hmem))).trans (hcs i (by omega))),trivial⟩ ?_
   refine Cfg.begL rfl ?_
   refine CfgL.pure 2 [] (some [2,3,7,8,9,13,14]) (Γ' := [(14,[],.string (sat ss i)),(13,[],.pointer (some ⟨b,0,none⟩)),(9,[],.int .i64 (i : Int)),(8,[],.int .i64 (ss.length : Int)),(7,[],.slice (some ⟨sb,off,none⟩) ss.length cap),(3,[],.pointer (some ⟨b,0,none⟩)),(2,[],.pointer (some ⟨r,0,none⟩))]) (nd := (fun _ => [])) (by kernel_rfl) (fun _ => by kernel_rfl) trivial ?_
   refine CfgL.eff (o := _) rfl (by kernel_rfl) (by kernel_rfl) (Eff.callM (vs := [.pointer (some ⟨b,0,none⟩),.string (sat ss i)]) (.tuple #[]) 0 (b := b) (ob := .cells (stC (sz ss i).hs (sz ss i).bl (sz ss i).held (tt ss i)) 151 (0,0)) (.cells (stC (feed (sz ss i) (sat ss i).data.toList).hs (feed (sz ss i) (sat ss i).data.toList).bl (feed (sz ss i) (sat ss i).data.toList).held ((tt ss i + (sat ss i).size) % 18446744073709551616)) 151 (0,0)) rfl Tryz.func79 rfl rfl (by kernel_rfl) (by kernel_rfl) (fun w1 h => shaWrite b (sz ss i) (tt ss i) (sat ss i) w1 (sz_ok ss i) (h.hasR (fun e he => by rw [List.mem_singleton.1 he]; exact List.mem_cons_self ..)) (h.own _ (List.mem_of_getElem? (i := 0) rfl)) hne)) ?_
   rintro ⟨⟩ -
   refine CfgL.done rfl ?_
   refine Conv.cfg (Γ' := [(9,[],.int .i64 (i : Int)),(8,[],.int .i64 (ss.length : Int)),(7,[],.slice (some ⟨sb,off,none⟩) ss.length cap),(3,[],.pointer (some ⟨b,0,none⟩)),(2,[],.pointer (some ⟨r,0,none⟩))]) (Conv.mk (by kernel_rfl)) ?_
   refine Cfg.reg rfl [2,3,7,8,9] [] (Γ' := [(9,[],.int .i64 ((i : Int) + 1)),(8,[],.int .i64 (ss.length : Int)),(7,[],.slice (some ⟨sb,off,none⟩) ss.length cap),(3,[],.pointer (some ⟨b,0,none⟩)),(2,[],.pointer (some ⟨r,0,none⟩))]) (nd := (fun _ => [((-9223372036854775808 : Int) ≤ ((i : Int) + 1) ∧ ((i : Int) + 1) ≤ 9223372036854775807)])) (fun _ => by kernel_rfl) ⟨(by omega),trivial⟩ ?_
   refine Cfg.setO (congrArg (fun (xq : Array Value) => ([(b,.cells xq 151 (0,0)),(r,.cells (bv (List.replicate 32 0)) 30 (0,0))] : List (Nat × Obj))) (show _ = (stC (sz ss (i + 1)).hs (sz ss (i + 1)).bl (sz ss (i + 1)).held (tt ss (i + 1))) from by rw [sz_succ (by omega),tt_succ (by omega)])) ?_
   refine Cfg.again rfl (i + 1) (by show i + 1 ≤ ss.length; omega) (by show ss.length - (i + 1) < ss.length - i; omega) (Conv.mk (by kernel_rfl)) (.cons_cons _ (.cons_cons _ .slnil))
  ·have c1 : (¬ ((i : Int) < (ss.length : Int))) := (of_decide_eq_false c1r)
   obtain rfl : i = ss.length := by omega
   refine Conv.cfg (Γ' := [(8,[],.int .i64 (ss.length : Int)),(7,[],.slice la ss.length cap),(3,[],.pointer (some ⟨b,0,none⟩)),(2,[],.pointer (some ⟨r,0,none⟩))]) (Conv.mk (by kernel_rfl)) ?_
   refine Cfg.begL rfl ?_
   refine CfgL.pure 1 [] (some [2,17]) (Γ' := [(17,[],.pointer (some ⟨b,0,none⟩)),(2,[],.pointer (some ⟨r,0,none⟩))]) (nd := (fun _ => [])) (by kernel_rfl) (fun _ => by kernel_rfl) trivial ?_
   refine CfgL.eff (o := _) rfl (by kernel_rfl) (by kernel_rfl) (Eff.callD (vs := [.pointer (some ⟨b,0,none⟩)]) (.agg (bv (shaD (cat ss)))) 0 (b := b) (ob := .cells (stC (sz ss ss.length).hs (sz ss ss.length).bl (sz ss ss.length).held (tt ss ss.length)) 151 (0,0)) rfl Tryz.func80 rfl rfl (by kernel_rfl) (by kernel_rfl) (fun w1 h => by have := shaEndC b (sz ss ss.length) (tt ss ss.length) w1 (sz_ok ss _) (h.hasR (fun e he => by rw [List.mem_singleton.1 he]; exact List.mem_cons_self ..)) (h.own _ (List.mem_of_getElem? (i := 0) rfl)) hne; rw [sz_all] at this; exact this)) ?_
   rintro ⟨⟩ -
   refine CfgL.eff (o := _) rfl (by kernel_rfl) (by kernel_rfl) (Eff.storeN (b := r) (off := 0) (vs := (bv (shaD (cat ss)))) (n := 32) rfl (by kernel_rfl) (by kernel_rfl) (by kernel_rfl) (dz _) (all_bv _) 0 (cs := (bv (List.replicate 32 0))) (e := 30) (by kernel_rfl) (by rw [zsz]; omega)) ?_
   rintro ⟨⟩ -
   refine CfgL.setO (congrArg (fun (xq : Array Value) => ([(r,.cells xq 30 (0,0))] : List (Nat × Obj))) (show _ = (bv (shaD (cat ss))) from spl_all ((dz _).trans zsz.symm))) ?_
   refine CfgL.done rfl ?_
   refine Conv.cfg (Γ' := [(2,[],.pointer (some ⟨r,0,none⟩))]) (Conv.mk (by kernel_rfl)) ?_
   refine Cfg.ret rfl (rs := [.cell 2 30]) rfl [.agg (bv (shaD (cat ss)))] ⟨⟨_,by kernel_rfl,(fun w1 h => h.oload 0 rfl Tryz.underlying30 rfl (n := 32) (by kernel_rfl) (dz _))⟩,trivial⟩ (fun w1 hp => ?_)
   exact ⟨rfl,hp.ext⟩
end Go.Proofs.YtojefiolcedigaaGreatDoor
namespace Go.Proofs.YtojefiolcedigaaGreatDoor
namespace I
inductive AV where
 | bad
 | undef
 | bool (b : Bool)
 | int (k : IntKind) (n : Int)
 | str (n x : Nat)
 | nilp
 | ptr (b off : Nat)
 | nils
 | sl (b off len lb sz : Nat)
 | nilm
 | map (b : Nat)
 | nilf
 | fn (f : Nat) (first caps : AV)
 | nili
 | ifc (t : Nat) (v : AV)
 | agg (n : Nat) (t : AV)
 | tup (l : AV)
 | lnil
 | lcons (h t : AV)
 | node (l r : AV)
 | uni (v : AV)
 | dead
 | cells (ty n : Nat) (ro : Bool) (t : AV)
 | mp (l : AV)
 | yld (b : Nat)
 | lp (n : Nat) (ps : List Nat) (assign body : Code) (tm : AV) (st pend db : Nat)
 | df
 deriving Inhabited
def cget : Nat → AV → Nat → AV
 | 0,t,_ => t
 | d + 1,.node l r,i => bif Nat.blt i (2 ^ d) then cget d l i else cget d r (i - 2 ^ d)
 | _ + 1,.uni v,_ => v
 | _ + 1,_,_ => .undef
def unid : Nat → AV → AV
 | 0,v => v
 | _ + 1,v => .uni v
def kidL : Nat → AV → AV
 | _,.node l _ => l
 | d,.uni v => unid d v
 | d,_ => unid d .undef
def kidR : Nat → AV → AV
 | _,.node _ r => r
 | d,.uni v => unid d v
 | d,_ => unid d .undef
def cput : Nat → AV → Nat → AV → AV
 | 0,_,_,v => v
 | d + 1,t,i,v => bif Nat.blt i (2 ^ d) then .node (cput d (kidL d t) i v) (kidR d t) else .node (kidL d t) (cput d (kidR d t) (i - 2 ^ d) v)
def csub : Nat → Nat → AV → Nat → AV
 | 0,_,t,_ => t
 | d + 1,k,t,off => bif Nat.beq (d + 1) k then t else bif Nat.blt off (2 ^ d) then csub d k (kidL d t) off else csub d k (kidR d t) (off - 2 ^ d)
def cmk (f : Nat → AV) : Nat → Nat → Nat → AV
 | 0,off,n => bif Nat.beq n 0 then .undef else f off
 | k + 1,off,n => bif Nat.beq n 0 then .uni .undef else .node (cmk f k off (bif Nat.ble n (2 ^ k) then n else 2 ^ k)) (cmk f k (off + 2 ^ k) (n - 2 ^ k))
def lg (n : Nat) : Nat := bif Nat.ble n 1 then 0 else Nat.log2 (n - 1) + 1
def juni (x y : Option AV) : Option AV :=
 match x with
 | some (.int .u8 (.ofNat a)) => match y with
  | some (.int .u8 (.ofNat b)) => bif Nat.beq a b then some (.int .u8 (.ofNat a)) else none
  | _ => none
 | _ => none
def cuni : Nat → AV → Nat → Nat → Option AV
 | 0,t,_,_ => some t
 | _ + 1,.uni v,_,_ => some v
 | d + 1,.node l r,i,n => bif Nat.ble (i + n) (2 ^ d) then cuni d l i n else bif Nat.ble (2 ^ d) i then cuni d r (i - 2 ^ d) n else juni (cuni d l i (2 ^ d - i)) (cuni d r 0 (i + n - 2 ^ d))
 | _ + 1,_,_,_ => none
def cseg (k : Nat) (s : AV) : Nat → Nat → AV
 | 0,i => cget k s i
 | d + 1,i => match cuni k s i (2 ^ (d + 1)) with
  | some v => .uni v
  | none => .node (cseg k s d i) (cseg k s d (i + 2 ^ d))
def cwr (k : Nat) (s : AV) : Nat → Nat → Nat → Nat → AV → AV
 | 0,n,i,_,t => bif Nat.beq n 0 then t else cget k s i
 | d + 1,n,i,off,t => bif Nat.beq n 0 then t else
  bif Nat.beq off 0 && Nat.ble (2 ^ (d + 1)) n then cseg k s (d + 1) i else
  bif Nat.ble (2 ^ d) off then .node (kidL d t) (cwr k s d n i (off - 2 ^ d) (kidR d t)) else
  bif Nat.ble (off + n) (2 ^ d) then .node (cwr k s d n i off (kidL d t)) (kidR d t) else
  .node (cwr k s d (2 ^ d - off) i off (kidL d t)) (cwr k s d (n - (2 ^ d - off)) (i + (2 ^ d - off)) 0 (kidR d t))
def crow (d : Nat) (t : AV) (off n : Nat) : AV :=
 bif Nat.beq (off % 2 ^ lg n) 0 && Nat.ble (lg n) d then csub d (lg n) t off else cseg d t (lg n) off
def cputs : Nat → Nat → AV → Nat → AV → AV
 | 0,_,_,_,s => s
 | d + 1,k,t,off,s => bif Nat.beq (d + 1) k then s else
  bif Nat.blt off (2 ^ d) then .node (cputs d k (kidL d t) off s) (kidR d t) else .node (kidL d t) (cputs d k (kidR d t) (off - 2 ^ d) s)
def cwrite (d k : Nat) (s : AV) (n i off : Nat) (t : AV) : AV := cwr k s d n i off t
def cblit (d : Nat) (t : AV) (off n : Nat) (s : AV) : AV :=
 bif Nat.beq n (2 ^ lg n) && (Nat.beq (off % 2 ^ lg n) 0 && Nat.ble (lg n) d) then cputs d (lg n) t off s else cwrite d (lg n) s n 0 off t
theorem blt_iff {a b : Nat} : Nat.blt a b = true ↔ a < b := ⟨fun h => Nat.lt_of_succ_le (Nat.le_of_ble_eq_true h),fun h => Nat.ble_eq_true_of_le h⟩
theorem blt_false {a b : Nat} : Nat.blt a b = false ↔ b ≤ a := by
 constructor
 ·intro h; apply Nat.le_of_not_lt; intro hh; rw [blt_iff.2 hh] at h; cases h
 ·intro h; cases hb : Nat.blt a b with
  | false => rfl
  | true => have := blt_iff.1 hb; omega
theorem ble_iff {a b : Nat} : Nat.ble a b = true ↔ a ≤ b := ⟨Nat.le_of_ble_eq_true,Nat.ble_eq_true_of_le⟩
theorem beqn_iff {a b : Nat} : Nat.beq a b = true ↔ a = b := ⟨Nat.eq_of_beq_eq_true,fun h => by rw [h]; exact Nat.beq_refl b⟩
theorem cget_unid (d : Nat) (v : AV) (i : Nat) : cget d (unid d v) i = v := by cases d <;> rfl
theorem cget_kids (d : Nat) (t : AV) (i : Nat) : cget (d + 1) t i = bif Nat.blt i (2 ^ d) then cget d (kidL d t) i else cget d (kidR d t) (i - 2 ^ d) := by
 cases t <;> simp only [cget,kidL,kidR,cget_unid,Bool.cond_self]
theorem cget_cput : ∀ (d : Nat) (t : AV) (i j : Nat) (v : AV),i < 2 ^ d → j < 2 ^ d → cget d (cput d t i v) j = if j = i then v else cget d t j
 | 0,t,i,j,v,hi,hj => by
  simp only [Nat.pow_zero] at hi hj
  have : j = i := by omega
  simp [this,cget,cput]
 | d + 1,t,i,j,v,hi,hj => by
  have hp : 2 ^ (d + 1) = 2 ^ d + 2 ^ d := by rw [Nat.pow_succ]; omega
  rw [cget_kids d t j]
  unfold cput
  cases hb : Nat.blt i (2 ^ d) with
  | true =>
   have hb' := blt_iff.1 hb
   simp only [cond_true]
   rw [cget_kids]
   simp only [kidL,kidR]
   cases hc : Nat.blt j (2 ^ d) with
   | true => simp only [cond_true]; rw [cget_cput d _ _ _ _ hb' (blt_iff.1 hc)]
   | false =>
    have := blt_false.1 hc
    simp only [cond_false]; rw [if_neg (by omega)]
  | false =>
   have hb' := blt_false.1 hb
   simp only [cond_false]
   rw [cget_kids]
   simp only [kidL,kidR]
   cases hc : Nat.blt j (2 ^ d) with
   | true =>
    have := blt_iff.1 hc
    simp only [cond_true]; rw [if_neg (by omega)]
   | false =>
    have := blt_false.1 hc
    simp only [cond_false]
    rw [cget_cput d _ _ _ _ (by omega) (by omega)]
    by_cases hji : j = i
    ·simp [hji]
    ·rw [if_neg (by omega),if_neg hji]
theorem mul_le_of {k d off : Nat} (hk : k ≤ d) (hm : off % 2 ^ k = 0) (ho : off < 2 ^ d) : off + 2 ^ k ≤ 2 ^ d := by
 obtain ⟨c,rfl⟩ := Nat.dvd_of_mod_eq_zero hm
 have hp : 2 ^ d = 2 ^ k * 2 ^ (d - k) := by rw [← Nat.pow_add]; congr 1; omega
 rw [hp] at ho ⊢
 have := Nat.lt_of_mul_lt_mul_left ho
 calc 2 ^ k * c + 2 ^ k = 2 ^ k * (c + 1) := by rw [Nat.mul_add,Nat.mul_one]
  _ ≤ 2 ^ k * 2 ^ (d - k) := Nat.mul_le_mul_left _ this
theorem mod_sub {k d off : Nat} (hk : k ≤ d) (hm : off % 2 ^ k = 0) (ho : 2 ^ d ≤ off) : (off - 2 ^ d) % 2 ^ k = 0 := by
 have h1 : 2 ^ d = 2 ^ k * 2 ^ (d - k) := by rw [← Nat.pow_add]; congr 1; omega
 obtain ⟨c,rfl⟩ := Nat.dvd_of_mod_eq_zero hm
 rw [h1,← Nat.mul_sub]
 exact Nat.mul_mod_right _ _
theorem cget_csub : ∀ (d k : Nat) (t : AV) (off i : Nat),k ≤ d → off % 2 ^ k = 0 → off + 2 ^ k ≤ 2 ^ d → i < 2 ^ k → cget k (csub d k t off) i = cget d t (off + i)
 | 0,k,t,off,i,hk,hm,ho,hi => by
  have : k = 0 := by omega
  subst this
  simp [csub,cget]
 | d + 1,k,t,off,i,hk,hm,ho,hi => by
  have hp : 2 ^ (d + 1) = 2 ^ d + 2 ^ d := by rw [Nat.pow_succ]; omega
  unfold csub
  cases he : Nat.beq (d + 1) k with
  | true =>
   have := beqn_iff.1 he
   subst this
   have : off = 0 := by omega
   simp [this]
  | false =>
   have hne : d + 1 ≠ k := fun h => by rw [beqn_iff.2 h] at he; cases he
   have hkd : k ≤ d := by omega
   simp only [cond_false]
   rw [cget_kids d t]
   cases hb : Nat.blt off (2 ^ d) with
   | true =>
    have hb' := blt_iff.1 hb
    have hle := mul_le_of hkd hm hb'
    simp only [cond_true]
    rw [cget_csub d k _ off i hkd hm hle hi,blt_iff.2 (by omega),cond_true]
   | false =>
    have hb' := blt_false.1 hb
    simp only [cond_false]
    rw [cget_csub d k _ (off - 2 ^ d) i hkd (mod_sub hkd hm hb') (by omega) hi,blt_false.2 (by omega),cond_false]
    congr 1; omega
theorem cget_cmk (f : Nat → AV) : ∀ (k off n i : Nat),n ≤ 2 ^ k → i < n → cget k (cmk f k off n) i = f (off + i)
 | 0,off,n,i,hn,hi => by
  have : n = 1 := by simp only [Nat.pow_zero] at hn; omega
  subst this
  have : i = 0 := by omega
  subst this
  rfl
 | k + 1,off,n,i,hn,hi => by
  have hp : 2 ^ (k + 1) = 2 ^ k + 2 ^ k := by rw [Nat.pow_succ]; omega
  unfold cmk
  have hne : Nat.beq n 0 = false := by
   cases hb : Nat.beq n 0 with
   | false => rfl
   | true => have := beqn_iff.1 hb; omega
  rw [hne,cond_false,cget_kids]
  simp only [kidL,kidR]
  cases hb : Nat.blt i (2 ^ k) with
  | true =>
   have := blt_iff.1 hb
   simp only [cond_true]
   cases hc : Nat.ble n (2 ^ k) with
   | true => simp only [cond_true]; exact cget_cmk f k off n i (ble_iff.1 hc) hi
   | false => simp only [cond_false]; exact cget_cmk f k off (2 ^ k) i (Nat.le_refl _) this
  | false =>
   have := blt_false.1 hb
   simp only [cond_false]
   rw [cget_cmk f k (off + 2 ^ k) (n - 2 ^ k) (i - 2 ^ k) (by omega) (by omega)]
   congr 1; omega
theorem lg_le (n : Nat) : n ≤ 2 ^ lg n := by
 unfold lg
 cases hb : Nat.ble n 1 with
 | true => have := ble_iff.1 hb; simpa using this
 | false =>
  have h1 : ¬ n ≤ 1 := fun h => by rw [ble_iff.2 h] at hb; cases hb
  simp only [cond_false]
  have := Nat.lt_log2_self (n := n - 1)
  omega
theorem cuni_node (d : Nat) (l r : AV) (i n : Nat) : cuni (d + 1) (.node l r) i n = cond (Nat.ble (i + n) (2 ^ d)) (cuni d l i n) (cond (Nat.ble (2 ^ d) i) (cuni d r (i - 2 ^ d) n) (juni (cuni d l i (2 ^ d - i)) (cuni d r 0 (i + n - 2 ^ d)))) := rfl
theorem juni_ok {x y : Option AV} {v : AV} (h : juni x y = some v) : x = some v ∧ y = some v := by
 unfold juni at h
 split at h
 ·rename_i a
  split at h
  ·rename_i b
   cases hb : Nat.beq a b with
   | true =>
    have : a = b := Nat.eq_of_beq_eq_true hb
    subst this
    simp only [hb,cond_true,Option.some.injEq] at h
    subst h
    exact ⟨rfl,rfl⟩
   | false => simp [hb] at h
  ·cases h
 ·cases h
theorem cuni_ok : ∀ (d : Nat) (t : AV) (i n : Nat) (v : AV),cuni d t i n = some v → ∀ j,i ≤ j → j < i + n → cget d t j = v
 | 0,t,i,n,v,h,j,_,_ => by simp only [cuni,Option.some.injEq] at h; exact h
 | d + 1,t,i,n,v,h,j,h1,h2 => by
  cases t with
  | node l r =>
   rw [cuni_node] at h
   simp only [cget]
   cases hb : Nat.ble (i + n) (2 ^ d) with
   | true =>
    simp only [hb,cond_true] at h
    have := ble_iff.1 hb
    simp only [blt_iff.2 (show j < 2 ^ d by omega),cond_true]
    exact cuni_ok d l i n v h j h1 h2
   | false =>
    simp only [hb,cond_false] at h
    cases hc : Nat.ble (2 ^ d) i with
    | false =>
     simp only [hc,cond_false] at h
     obtain ⟨h3,h4⟩ := juni_ok h
     have h5 : ¬ 2 ^ d ≤ i := fun e => by rw [ble_iff.2 e] at hc; cases hc
     cases hj : Nat.blt j (2 ^ d) with
     | true => simp only [cond_true]; have := blt_iff.1 hj; exact cuni_ok d l i _ v h3 j h1 (by omega)
     | false => simp only [cond_false]; have := blt_false.1 hj; exact cuni_ok d r 0 _ v h4 (j - 2 ^ d) (by omega) (by omega)
    | true =>
     simp only [hc,cond_true] at h
     have := ble_iff.1 hc
     simp only [blt_false.2 (show 2 ^ d ≤ j by omega),cond_false]
     exact cuni_ok d r (i - 2 ^ d) n v h (j - 2 ^ d) (by omega) (by omega)
  | uni u => simp only [cuni,Option.some.injEq] at h; exact h
  | _ => cases h
theorem cget_cseg (k : Nat) (s : AV) : ∀ (d i j : Nat),j < 2 ^ d → cget d (cseg k s d i) j = cget k s (i + j)
 | 0,i,j,hj => by
  have : j = 0 := by simpa using hj
  subst this
  rfl
 | d + 1,i,j,hj => by
  have hp : 2 ^ (d + 1) = 2 ^ d + 2 ^ d := by rw [Nat.pow_succ]; omega
  unfold cseg
  split
  ·rename_i v hv
   rw [cuni_ok k s i _ v hv (i + j) (by omega) (by omega)]
   rfl
  ·simp only [cget]
   by_cases h : j < 2 ^ d
   ·rw [blt_iff.2 h,cond_true,cget_cseg k s d i j h]
   ·rw [blt_false.2 (by omega),cond_false,cget_cseg k s d (i + 2 ^ d) (j - 2 ^ d) (by omega)]
    congr 1; omega
theorem cget_crow {d : Nat} {t : AV} {off n i : Nat} (ho : off + n ≤ 2 ^ d) (hi : i < n) : cget (lg n) (crow d t off n) i = cget d t (off + i) := by
 unfold crow
 cases hb : (Nat.beq (off % 2 ^ lg n) 0 && Nat.ble (lg n) d) with
 | true =>
  simp only [Bool.and_eq_true] at hb
  have h1 := beqn_iff.1 hb.1
  have h2 := ble_iff.1 hb.2
  have h3 := lg_le n
  simp only [cond_true]
  exact cget_csub d (lg n) t off i h2 h1 (mul_le_of h2 h1 (by omega)) (by omega)
 | false => simp only [cond_false]; exact cget_cseg d t (lg n) off i (Nat.lt_of_lt_of_le hi (lg_le n))
theorem cget_cputs : ∀ (d k : Nat) (t : AV) (off : Nat) (s : AV) (j : Nat),k ≤ d → off % 2 ^ k = 0 → off + 2 ^ k ≤ 2 ^ d → j < 2 ^ d →
  cget d (cputs d k t off s) j = if off ≤ j ∧ j < off + 2 ^ k then cget k s (j - off) else cget d t j
 | 0,k,t,off,s,j,hk,hm,ho,hj => by
  have : k = 0 := by omega
  subst this
  simp only [Nat.pow_zero] at *
  have h1 : off = 0 := by omega
  have h2 : j = 0 := by omega
  subst h1; subst h2
  simp [cputs,cget]
 | d + 1,k,t,off,s,j,hk,hm,ho,hj => by
  have hp : 2 ^ (d + 1) = 2 ^ d + 2 ^ d := by rw [Nat.pow_succ]; omega
  unfold cputs
  cases he : Nat.beq (d + 1) k with
  | true =>
   have := beqn_iff.1 he
   subst this
   have : off = 0 := by omega
   subst this
   simp only [cond_true]
   rw [if_pos (by omega)]; rfl
  | false =>
   have hne : d + 1 ≠ k := fun h => by rw [beqn_iff.2 h] at he; cases he
   have hkd : k ≤ d := by omega
   simp only [cond_false]
   rw [cget_kids d t]
   cases hb : Nat.blt off (2 ^ d) with
   | true =>
    have hb' := blt_iff.1 hb
    have hle := mul_le_of hkd hm hb'
    simp only [cond_true]
    rw [cget_kids]
    simp only [kidL,kidR]
    cases hc : Nat.blt j (2 ^ d) with
    | true => simp only [cond_true]; rw [cget_cputs d k _ off s j hkd hm hle (blt_iff.1 hc)]
    | false => have := blt_false.1 hc; simp only [cond_false]; rw [if_neg (by omega)]
   | false =>
    have hb' := blt_false.1 hb
    simp only [cond_false]
    rw [cget_kids]
    simp only [kidL,kidR]
    cases hc : Nat.blt j (2 ^ d) with
    | true => have := blt_iff.1 hc; simp only [cond_true]; rw [if_neg (by omega)]
    | false =>
     have := blt_false.1 hc
     simp only [cond_false]
     rw [cget_cputs d k _ (off - 2 ^ d) s (j - 2 ^ d) hkd (mod_sub hkd hm hb') (by omega) (by omega)]
     by_cases hh : off ≤ j ∧ j < off + 2 ^ k
     ·rw [if_pos hh,if_pos (by omega)]; congr 1; omega
     ·rw [if_neg hh,if_neg (by omega)]
theorem cget_cwr {k : Nat} {s : AV} : ∀ (d n i off : Nat) (t : AV) (j : Nat),off + n ≤ 2 ^ d → j < 2 ^ d →
  cget d (cwr k s d n i off t) j = if off ≤ j ∧ j < off + n then cget k s (i + (j - off)) else cget d t j
 | 0,n,i,off,t,j,ho,hj => by
  simp only [Nat.pow_zero] at ho hj
  unfold cwr
  cases hb : Nat.beq n 0 with
  | true => have := beqn_iff.1 hb; rw [if_neg (by omega)]; rfl
  | false =>
   have hne : n ≠ 0 := fun h => by rw [beqn_iff.2 h] at hb; cases hb
   rw [if_pos (by omega)]
   show cget k s i = _
   congr 1; omega
 | d + 1,n,i,off,t,j,ho,hj => by
  have hp : 2 ^ (d + 1) = 2 ^ d + 2 ^ d := by rw [Nat.pow_succ]; omega
  unfold cwr
  cases hb : Nat.beq n 0 with
  | true => have := beqn_iff.1 hb; rw [if_neg (by omega)]; rfl
  | false =>
   have hne : n ≠ 0 := fun h => by rw [beqn_iff.2 h] at hb; cases hb
   simp only [cond_false]
   cases hc : (Nat.beq off 0 && Nat.ble (2 ^ (d + 1)) n) with
   | true =>
    simp only [Bool.and_eq_true] at hc
    have h1 := beqn_iff.1 hc.1
    have h2 := ble_iff.1 hc.2
    simp only [cond_true]
    rw [cget_cseg k s (d + 1) i j hj,if_pos (by omega)]
    congr 1; omega
   | false =>
    simp only [cond_false]
    cases h1 : Nat.ble (2 ^ d) off with
    | true =>
     have := ble_iff.1 h1
     simp only [cond_true]
     rw [cget_kids d t,cget_kids d (.node _ _)]
     simp only [kidL,kidR]
     by_cases hj2 : j < 2 ^ d
     ·rw [blt_iff.2 hj2,cond_true,cond_true,if_neg (by omega)]
     ·rw [blt_false.2 (by omega),cond_false,cond_false,cget_cwr d n i (off - 2 ^ d) _ (j - 2 ^ d) (by omega) (by omega)]
      by_cases hh : off ≤ j ∧ j < off + n
      ·rw [if_pos hh,if_pos (by omega)]; congr 1; omega
      ·rw [if_neg hh,if_neg (by omega)]
    | false =>
     have h1' : ¬ 2 ^ d ≤ off := fun h => by rw [ble_iff.2 h] at h1; cases h1
     simp only [cond_false]
     cases h2 : Nat.ble (off + n) (2 ^ d) with
     | true =>
      have := ble_iff.1 h2
      simp only [cond_true]
      rw [cget_kids d t,cget_kids d (.node _ _)]
      simp only [kidL,kidR]
      by_cases hj2 : j < 2 ^ d
      ·rw [blt_iff.2 hj2,cond_true,cond_true,cget_cwr d n i off _ j (by omega) hj2]
      ·rw [blt_false.2 (by omega),cond_false,cond_false,if_neg (by omega)]
     | false =>
      have h2' : ¬ off + n ≤ 2 ^ d := fun h => by rw [ble_iff.2 h] at h2; cases h2
      simp only [cond_false]
      rw [cget_kids d t,cget_kids d (.node _ _)]
      simp only [kidL,kidR]
      by_cases hj2 : j < 2 ^ d
      ·rw [blt_iff.2 hj2,cond_true,cond_true,cget_cwr d (2 ^ d - off) i off _ j (by omega) hj2]
       by_cases hh : off ≤ j ∧ j < off + n
       ·rw [if_pos hh,if_pos (by omega)]
       ·rw [if_neg hh,if_neg (by omega)]
      ·rw [blt_false.2 (by omega),cond_false,cond_false,cget_cwr d (n - (2 ^ d - off)) (i + (2 ^ d - off)) 0 _ (j - 2 ^ d) (by omega) (by omega)]
       by_cases hh : off ≤ j ∧ j < off + n
       ·rw [if_pos hh,if_pos (by omega)]; congr 1; omega
       ·rw [if_neg hh,if_neg (by omega)]
theorem cget_cwrite {d k : Nat} {s : AV} (n i off : Nat) (t : AV) (j : Nat) (ho : off + n ≤ 2 ^ d) (hj : j < 2 ^ d) :
  cget d (cwrite d k s n i off t) j = if off ≤ j ∧ j < off + n then cget k s (i + (j - off)) else cget d t j := cget_cwr d n i off t j ho hj
theorem cget_cblit {d : Nat} {t : AV} {off n : Nat} {s : AV} {j : Nat} (ho : off + n ≤ 2 ^ d) (hj : j < 2 ^ d) :
  cget d (cblit d t off n s) j = if off ≤ j ∧ j < off + n then cget (lg n) s (j - off) else cget d t j := by
 unfold cblit
 cases hb : (Nat.beq n (2 ^ lg n) && (Nat.beq (off % 2 ^ lg n) 0 && Nat.ble (lg n) d)) with
 | true =>
  simp only [Bool.and_eq_true] at hb
  have h0 := beqn_iff.1 hb.1
  have h1 := beqn_iff.1 hb.2.1
  have h2 := ble_iff.1 hb.2.2
  simp only [cond_true]
  rw [cget_cputs d (lg n) t off s j h2 h1 (by omega) hj,← h0]
 | false => simp only [cond_false]; rw [cget_cwrite n 0 off t j ho hj,Nat.zero_add]
end I
end Go.Proofs.YtojefiolcedigaaGreatDoor
namespace Go.Proofs.YtojefiolcedigaaGreatDoor
namespace I
def strOf : List UInt8 → Nat → Nat
 | [],a => a
 | b :: l,a => strOf l (a * 256 + b.toNat)
def val (l : List UInt8) : Nat := strOf l 0
theorem strOf_eq : ∀ (l : List UInt8) (a : Nat),strOf l a = a * 256 ^ l.length + val l
 | [],a => by simp [strOf,val]
 | b :: l,a => by
  unfold strOf val
  rw [strOf,strOf_eq l,strOf_eq l (0 * 256 + b.toNat),List.length_cons,Nat.pow_succ,Nat.add_mul]
  rw [Nat.zero_mul,Nat.zero_add,show a * (256 ^ l.length * 256) = a * 256 * 256 ^ l.length by rw [Nat.mul_comm (256 ^ l.length),Nat.mul_assoc]]
  omega
theorem val_cons (b : UInt8) (l : List UInt8) : val (b :: l) = b.toNat * 256 ^ l.length + val l := by
 rw [val,strOf,strOf_eq]; simp
theorem val_append : ∀ (a b : List UInt8),val (a ++ b) = val a * 256 ^ b.length + val b
 | [],b => by simp [val,strOf]
 | x :: a,b => by
  rw [List.cons_append,val_cons,val_append a b,val_cons,List.length_append,Nat.add_mul,Nat.pow_add,Nat.mul_assoc]; omega
theorem val_lt : ∀ (l : List UInt8),val l < 256 ^ l.length
 | [] => by simp [val,strOf]
 | b :: l => by
  have h1 := val_lt l
  have h2 : b.toNat < 256 := b.toNat_lt
  rw [val_cons,List.length_cons,Nat.pow_succ]
  have h3 : (b.toNat + 1) * 256 ^ l.length ≤ 256 * 256 ^ l.length := Nat.mul_le_mul_right _ h2
  rw [Nat.add_mul,Nat.one_mul] at h3
  rw [Nat.mul_comm (256 ^ l.length)]
  omega
theorem val_inj : ∀ {a b : List UInt8},a.length = b.length → val a = val b → a = b
 | [],[],_,_ => rfl
 | [],_ :: _,h,_ => by simp at h
 | _ :: _,[],h,_ => by simp at h
 | x :: a,y :: b,h,hv => by
  have hl : a.length = b.length := by simpa using h
  rw [val_cons,val_cons,hl] at hv
  have ha := val_lt a
  have hb := val_lt b
  rw [hl] at ha
  have hp : 0 < 256 ^ b.length := Nat.pow_pos (by decide)
  have e1 : (x.toNat * 256 ^ b.length + val a) / 256 ^ b.length = x.toNat := by
   rw [Nat.mul_comm,Nat.mul_add_div hp,Nat.div_eq_of_lt ha,Nat.add_zero]
  have e2 : (y.toNat * 256 ^ b.length + val b) / 256 ^ b.length = y.toNat := by
   rw [Nat.mul_comm,Nat.mul_add_div hp,Nat.div_eq_of_lt hb,Nat.add_zero]
  have hxy : x.toNat = y.toNat := by rw [← e1,hv,e2]
  have : x = y := UInt8.toNat_inj.1 hxy
  subst this
  have : a = b := val_inj hl (by omega)
  rw [this]
theorem val_mid {p m q : List UInt8} : val (p ++ m ++ q) / 256 ^ q.length % 256 ^ m.length = val m := by
 have hp : 0 < 256 ^ q.length := Nat.pow_pos (by decide)
 rw [val_append,val_append,Nat.mul_comm _ (256 ^ q.length),Nat.mul_add_div hp,Nat.div_eq_of_lt (val_lt q),Nat.add_zero,Nat.mul_comm,Nat.mul_add_mod,Nat.mod_eq_of_lt (val_lt m)]
theorem val_extract {l : List UInt8} {a b : Nat} (hab : a ≤ b) (hb : b ≤ l.length) : val ((l.drop a).take (b - a)) = val l / 256 ^ (l.length - b) % 256 ^ (b - a) := by
 have h1 : l = l.take a ++ (l.drop a).take (b - a) ++ l.drop b := by
  rw [List.append_assoc]
  conv => lhs; rw [← List.take_append_drop a l]
  congr 1
  conv => lhs; rw [← List.take_append_drop (b - a) (l.drop a)]
  congr 1
  rw [List.drop_drop]; congr 1; omega
 have h2 : ((l.drop a).take (b - a)).length = b - a := by simp; omega
 have h3 : (l.drop b).length = l.length - b := by simp
 have h4 := val_mid (p := l.take a) (m := (l.drop a).take (b - a)) (q := l.drop b)
 rw [h2,h3,← h1] at h4
 exact h4.symm
def sbyte (n x i : Nat) : Nat := x / 256 ^ (n - 1 - i) % 256
theorem val_get {l : List UInt8} {i : Nat} (h : i < l.length) : (l[i]'h).toNat = sbyte l.length (val l) i := by
 have h1 := val_extract (l := l) (a := i) (b := i + 1) (by omega) (by omega)
 have h2 : (l.drop i).take (i + 1 - i) = [l[i]] := by
  rw [show i + 1 - i = 1 by omega,List.drop_eq_getElem_cons h]; rfl
 rw [h2,show i + 1 - i = 1 by omega] at h1
 rw [sbyte,show l.length - 1 - i = l.length - (i + 1) by omega]
 simpa [val,strOf] using h1
def strLess (n x m y : Nat) : Bool :=
 bif Nat.ble n m then Nat.ble x (y / 256 ^ (m - n)) && (Nat.blt x (y / 256 ^ (m - n)) || Nat.blt n m)
 else Nat.blt (x / 256 ^ (n - m)) y
theorem bytesLess_nil (b : List UInt8) : Op.bytesLess [] b = Nat.blt 0 b.length := by
 cases b with
 | nil => rfl
 | cons x b => simp only [Op.bytesLess,List.length_cons]; exact (I.blt_iff.2 (by omega)).symm
theorem bytesLess_eq : ∀ (a b : List UInt8),a.length = b.length → Op.bytesLess a b = Nat.blt (val a) (val b)
 | [],[],_ => rfl
 | [],_ :: _,h => by simp at h
 | _ :: _,[],h => by simp at h
 | x :: a,y :: b,h => by
  have hl : a.length = b.length := by simpa using h
  have ih := bytesLess_eq a b hl
  have ha := val_lt a
  have hb := val_lt b
  rw [hl] at ha
  rw [val_cons,val_cons,hl]
  simp only [Op.bytesLess,ih]
  rcases Nat.lt_trichotomy x.toNat y.toNat with hlt | heq | hgt
  ·have h1 : (decide (x < y)) = true := by simpa [UInt8.lt_iff_toNat_lt] using hlt
   rw [h1,Bool.true_or]
   symm; rw [blt_iff]
   have : (x.toNat + 1) * 256 ^ b.length ≤ y.toNat * 256 ^ b.length := Nat.mul_le_mul_right _ hlt
   rw [Nat.add_mul] at this; omega
  ·have hxy : x = y := UInt8.toNat_inj.1 heq
   subst hxy
   have h1 : (decide (x < x)) = false := by simp
   rw [h1]
   simp only [beq_self_eq_true,Bool.true_and,Bool.false_or]
   cases hh : Nat.blt (val a) (val b) with
   | true => symm; rw [blt_iff]; have := blt_iff.1 hh; omega
   | false => symm; rw [blt_false]; have := blt_false.1 hh; omega
  ·have h1 : (decide (x < y)) = false := by simp [UInt8.lt_iff_toNat_lt]; omega
   have h2 : (x == y) = false := by
    rw [beq_eq_false_iff_ne]; intro h; rw [h] at hgt; omega
   rw [h1,h2]
   simp only [Bool.false_and,Bool.or_self]
   symm; rw [blt_false]
   have : (y.toNat + 1) * 256 ^ b.length ≤ x.toNat * 256 ^ b.length := Nat.mul_le_mul_right _ hgt
   rw [Nat.add_mul] at this; omega
theorem bytesLess_app1 : ∀ (a b c : List UInt8),a.length = b.length → Op.bytesLess a (b ++ c) = (Op.bytesLess a b || (a == b && Nat.blt 0 c.length))
 | [],[],c,_ => by rw [List.nil_append,bytesLess_nil]; simp [Op.bytesLess]
 | [],_ :: _,_,h => by simp at h
 | _ :: _,[],_,h => by simp at h
 | x :: a,y :: b,c,h => by
  have ih := bytesLess_app1 a b c (by simpa using h)
  simp only [List.cons_append,Op.bytesLess,ih]
  by_cases hxy : x = y
  ·subst hxy; simp only [beq_self_eq_true,Bool.true_and,List.cons_beq_cons]
   cases decide (x < x) <;> simp
  ·have hb : (x == y) = false := by rw [beq_eq_false_iff_ne]; exact hxy
   simp only [List.cons_beq_cons,hb,Bool.false_and,Bool.or_false]
theorem bytesLess_app2 : ∀ (a b c : List UInt8),a.length = b.length → Op.bytesLess (a ++ c) b = Op.bytesLess a b
 | [],[],c,_ => by simp [Op.bytesLess]
 | [],_ :: _,_,h => by simp at h
 | _ :: _,[],_,h => by simp at h
 | x :: a,y :: b,c,h => by
  have ih := bytesLess_app2 a b c (by simpa using h)
  simp only [List.cons_append,Op.bytesLess,ih]
theorem beq_val {a b : List UInt8} (h : a.length = b.length) : (a == b) = Nat.beq (val a) (val b) := by
 cases hb : Nat.beq (val a) (val b) with
 | true => rw [val_inj h (beqn_iff.1 hb)]; simp
 | false =>
  rw [beq_eq_false_iff_ne]; intro hh
  rw [hh,Nat.beq_refl] at hb; cases hb
theorem val_take {l : List UInt8} {k : Nat} : val (l.take k) = val l / 256 ^ (l.length - k) := by
 have hp : 0 < 256 ^ (l.length - k) := Nat.pow_pos (by decide)
 conv => rhs; rw [← List.take_append_drop k l]
 rw [val_append]
 have : (l.drop k).length = l.length - k := by simp
 rw [List.take_append_drop,this,Nat.mul_comm,Nat.mul_add_div hp,Nat.div_eq_of_lt (by rw [← this]; exact val_lt _),Nat.add_zero]
theorem strLess_ok (a b : List UInt8) : Op.bytesLess a b = strLess a.length (val a) b.length (val b) := by
 unfold strLess
 cases hb : Nat.ble a.length b.length with
 | true =>
  have hle := ble_iff.1 hb
  simp only [cond_true]
  conv => lhs; rw [← List.take_append_drop a.length b]
  have hl : a.length = (b.take a.length).length := by simp; omega
  rw [bytesLess_app1 _ _ _ hl,bytesLess_eq _ _ hl,beq_val hl,val_take]
  have : Nat.blt 0 (b.drop a.length).length = Nat.blt a.length b.length := by
   simp only [List.length_drop]
   cases h : Nat.blt a.length b.length with
   | true => exact blt_iff.2 (by have := blt_iff.1 h; omega)
   | false => exact blt_false.2 (by have := blt_false.1 h; omega)
  rw [this]
  generalize val b / 256 ^ (b.length - a.length) = y
  cases h1 : Nat.blt (val a) y with
  | true => have := blt_iff.1 h1; simp [ble_iff.2 (Nat.le_of_lt this)]
  | false =>
   have := blt_false.1 h1
   simp only [Bool.false_or]
   cases h2 : Nat.beq (val a) y with
   | true => have := beqn_iff.1 h2; rw [ble_iff.2 (by omega)]
   | false =>
    have hne : val a ≠ y := fun h => by rw [beqn_iff.2 h] at h2; cases h2
    have : Nat.ble (val a) y = false := by
     cases h : Nat.ble (val a) y with
     | false => rfl
     | true => have := ble_iff.1 h; omega
    rw [this]
 | false =>
  have hle : b.length ≤ a.length := by
   apply Nat.le_of_lt
   apply Nat.lt_of_not_le
   intro h; rw [ble_iff.2 h] at hb; cases hb
  simp only [cond_false]
  conv => lhs; rw [← List.take_append_drop b.length a]
  have hl : (a.take b.length).length = b.length := by simp; omega
  rw [bytesLess_app2 _ _ _ hl,bytesLess_eq _ _ hl,val_take]
end I
end Go.Proofs.YtojefiolcedigaaGreatDoor
namespace Go.Proofs.YtojefiolcedigaaGreatDoor
namespace I
open K (one)
set_option linter.unusedVariables false
abbrev Pl := Nat × Nat × Nat
abbrev Sg := Nat → Option Pl
def Sub (σ σ' : Sg) : Prop := ∀ b p,σ b = some p → σ' b = some p
def toList : AV → List AV
 | .lcons a l => a :: toList l
 | _ => []
def ofList : List AV → AV
 | [] => .lnil
 | a :: l => .lcons a (ofList l)
theorem toList_ofList : ∀ (l : List AV),toList (ofList l) = l
 | [] => rfl
 | a :: l => by simp [ofList,toList,toList_ofList l]
inductive Rel (σ : Sg) : AV → Value → Prop
 | bad (v : Value) : Rel σ .bad v
 | undef : Rel σ .undef Go.undef
 | bool (b : Bool) : Rel σ (.bool b) (.bool b)
 | int (k : IntKind) (n : Int) : Rel σ (.int k n) (.int k n)
 | str (s : ByteArray) (n x : Nat) (hn : n = s.size) (hx : x = val s.data.toList) : Rel σ (.str n x) (.string s)
 | nilp : Rel σ .nilp (.pointer none)
 | ptr (b off r base size o : Nat) (h : σ b = some (r,base,size)) (ho : o = base + off) : Rel σ (.ptr b off) (.pointer (some ⟨r,o,none⟩))
 | nils : Rel σ .nils (.slice none 0 0)
 | sl (b off len lb sz r base size o cap : Nat) (h : σ b = some (r,base,size)) (h1 : len ≤ lb) (h2 : lb ≤ cap) (h3 : lb ≠ 0 → o = base + off) (h4 : o + cap * sz ≤ size) :
   Rel σ (.sl b off len lb sz) (.slice (some ⟨r,o,none⟩) len cap)
 | nilm : Rel σ .nilm (.map none)
 | map (b r base size : Nat) (h : σ b = some (r,base,size)) : Rel σ (.map b) (.map (some r))
 | nilf : Rel σ .nilf .nilFunc
 | yld (b r base size : Nat) (h : σ b = some (r,base,size)) : Rel σ (.yld b) (.func (.yield r) #[] #[])
 | fn (f : Nat) (first caps : AV) (xs ys : Array Value) (h1 : (toList first).length = xs.size) (h2 : (toList caps).length = ys.size)
   (h3 : ∀ (i : Nat) a v,(toList first)[i]? = some a → xs[i]? = some v → Rel σ a v) (h4 : ∀ (i : Nat) a v,(toList caps)[i]? = some a → ys[i]? = some v → Rel σ a v) :
   Rel σ (.fn f first caps) (.func (.func f) xs ys)
 | nili : Rel σ .nili .nilIface
 | ifc (t : Nat) (a : AV) (v : Value) (h : Rel σ a v) : Rel σ (.ifc t a) (.iface t v)
 | agg (n : Nat) (t : AV) (cs : Array Value) (hn : cs.size = n) (h1 : ∀ (i : Nat) v,cs[i]? = some v → K.one v = true) (h2 : ∀ (i : Nat) v,cs[i]? = some v → Rel σ (cget (lg n) t i) v) : Rel σ (.agg n t) (.agg cs)
 | tup (l : AV) (vs : Array Value) (h1 : (toList l).length = vs.size) (h2 : ∀ (i : Nat) a v,(toList l)[i]? = some a → vs[i]? = some v → Rel σ a v) : Rel σ (.tup l) (.tuple vs)
theorem Rel.mono {σ σ' : Sg} (hs : Sub σ σ') {a : AV} {v : Value} (h : Rel σ a v) : Rel σ' a v := by
 induction h with
 | bad v => exact .bad v
 | undef => exact .undef
 | bool b => exact .bool b
 | int k n => exact .int k n
 | str s n x hn hx => exact .str s n x hn hx
 | nilp => exact .nilp
 | ptr b off r base size o h ho => exact .ptr b off r base size o (hs _ _ h) ho
 | nils => exact .nils
 | sl b off len lb sz r base size o cap h h1 h2 h3 h4 => exact .sl b off len lb sz r base size o cap (hs _ _ h) h1 h2 h3 h4
 | nilm => exact .nilm
 | map b r base size h => exact .map b r base size (hs _ _ h)
 | nilf => exact .nilf
 | yld b r base size h => exact .yld b r base size (hs _ _ h)
 | fn f first caps xs ys h1 h2 _ _ ih3 ih4 => exact .fn f first caps xs ys h1 h2 ih3 ih4
 | nili => exact .nili
 | ifc t a v _ ih => exact .ifc t a v ih
 | agg n t cs hn h1 _ ih => exact .agg n t cs hn h1 ih
 | tup l vs h1 _ ih => exact .tup l vs h1 ih
def scalarA : AV → Bool
 | .bool _ | .int _ _ | .str _ _ | .nilp | .ptr _ _ | .nils | .sl .. | .nilm | .map _ | .nilf | .fn .. | .yld _ | .nili | .ifc .. => true
 | _ => false
theorem Rel.one {σ : Sg} {a : AV} {v : Value} (h : Rel σ a v) (hs : scalarA a = true) : K.one v = true := by
 cases h <;> first | rfl | simp [scalarA] at hs
def HD : Nat := 18
def EsRel (σ : Sg) : AV → List MapEntry → Prop
 | .lcons (.lcons k v) l,e :: es => Rel σ k e.key ∧ Rel σ v e.val ∧ EsRel σ l es
 | .lnil,[] => True
 | _,_ => False
theorem EsRel.mono {σ σ' : Sg} (hs : Sub σ σ') : ∀ {l : AV} {es : List MapEntry},EsRel σ l es → EsRel σ' l es
 | .lcons (.lcons _ _) l,e :: es,h => ⟨h.1.mono hs,h.2.1.mono hs,EsRel.mono hs h.2.2⟩
 | .lnil,[],_ => trivial
 | .lnil,_ :: _,h => h.elim
 | .lcons (.lcons _ _) _,[],h => h.elim
def MsRel (σ : Sg) (l : AV) (es : Array MapEntry) (clock : Nat) : Prop := EsRel σ l es.toList ∧ Go.MapKept.Stamped es clock
theorem MsRel.mono {σ σ' : Sg} (hs : Sub σ σ') {l : AV} {es : Array MapEntry} {clock : Nat} (h : MsRel σ l es clock) : MsRel σ' l es clock := ⟨h.1.mono hs,h.2⟩
def Calm (fr : Nat × Nat) (size : Nat) : Prop := ∀ i,i < size → (decide (fr.1 ≤ i) && decide (i < fr.2)) = false
def stOf : Nat → LoopState
 | 0 => .ready
 | 1 => .busy
 | 2 => .done
 | _ => .exhausted
def pendOf : Nat → Option Code
 | 0 => none
 | 1 => some .ret
 | id + 2 => some (.exit id)
structure Fr where
 wr : Nat → Prop
 acc : Nat → Prop
def BlkRel (σ : Sg) (w0 : World) (B : Fr) (w : World) (b : Nat) : AV → Prop
 | .cells ty n ro t => ∃ r base size cs fr tt,σ b = some (r,base,size) ∧ w.heap[r]? = some (.cells cs tt fr) ∧ cs.size = size ∧ (base = 0 ∧ base + n ≤ size ∧ (ty % 2 = 1 → n = size)) ∧
   (∀ i,i < n → ∃ v,cs[base + i]? = some v ∧ K.one v = true ∧ Rel σ (cget (lg n) t i) v) ∧ (ro = false → Calm fr size ∧ (B.wr r ∨ w0.heap.size ≤ r)) ∧ ((ro = false ∨ ty % 2 = 1) → tt = ty / 2)
 | .mp l => ∃ r base size es clock,σ b = some (r,base,size) ∧ w.heap[r]? = some (.map es clock) ∧ MsRel σ l es clock ∧ (B.wr r ∨ w0.heap.size ≤ r)
 | .lp n ps assign body tm st pend db => ∃ r base size rc dr dbase dsize,σ b = some (r,base,size) ∧ w.heap[r]? = some (.loop rc) ∧ σ db = some (dr,dbase,dsize) ∧
   (rc.state = stOf st ∧ rc.pending = pendOf pend ∧ rc.params = ps.toArray ∧ rc.assign = assign ∧ rc.body = body ∧ rc.defers = dr ∧ rc.tmps.size = n) ∧ (∀ t,t < n → Rel σ (cget (lg n) tm t) (rc.tmps.getD t Go.undef)) ∧ (B.wr r ∨ w0.heap.size ≤ r)
 | .df => ∃ r base size,σ b = some (r,base,size) ∧ w.heap[r]? = some (.deferred (some [])) ∧ (B.wr r ∨ w0.heap.size ≤ r)
 | _ => True
def live : AV → Bool
 | .cells .. | .mp _ | .lp .. | .df => true
 | _ => false
def liveW : AV → Bool
 | .cells _ _ ro _ => !ro
 | .mp _ | .lp .. | .df => true
 | _ => false
theorem live_of {x : AV} (h : liveW x = true) : live x = true := by cases x <;> first | rfl | cases h
structure HS (σ : Sg) (h : AV) (nx : Nat) (w0 : World) (B : Fr) (w : World) : Prop where
 os : w.os = w0.os
 tape : w.tape = w0.tape
 output : w.output = w0.output
 size : w0.heap.size ≤ w.heap.size
 block : ∀ k,k < w0.heap.size → ¬ B.wr k → w.heap[k]? = w0.heap[k]?
 blk : ∀ b,b < 2 ^ HD → BlkRel σ w0 B w b (cget HD h b)
 dom : ∀ b p,σ b = some p → b < nx
 nxle : nx ≤ 2 ^ HD
 dist : ∀ b b' p p',b ≠ b' → σ b = some p → σ b' = some p' → liveW (cget HD h b) = true → live (cget HD h b') = true → p.1 ≠ p'.1
 acc : ∀ b p,σ b = some p → live (cget HD h b) = true → B.acc p.1 ∨ w0.heap.size ≤ p.1
section
variable {σ σ' : Sg} {h h' : AV} {nx : Nat} {w0 w w' : World} {B : Fr} {b : Nat}
theorem BlkRel.mono {x : AV} (hx : BlkRel σ w0 B w b x) (hs : Sub σ σ') (hw : ∀ p,σ b = some p → live x = true → w'.heap[p.1]? = w.heap[p.1]?) : BlkRel σ' w0 B w' b x := by
 cases x with
 | cells ty n ro t =>
  obtain ⟨r,base,size,cs,fr,tt,h1,h2,h3,h4,h5,h6⟩ := hx
  refine ⟨r,base,size,cs,fr,tt,hs _ _ h1,(hw _ h1 rfl).trans h2,h3,h4,fun i hi => ?_,h6⟩
  obtain ⟨v,h7,h8,h9⟩ := h5 i hi
  exact ⟨v,h7,h8,h9.mono hs⟩
 | mp l =>
  obtain ⟨r,base,size,es,clock,h1,h2,h3,h4⟩ := hx
  exact ⟨r,base,size,es,clock,hs _ _ h1,(hw _ h1 rfl).trans h2,h3.mono hs,h4⟩
 | lp n ps assign body tm st pend db =>
  obtain ⟨r,base,size,rc,dr,dbase,dsize,h1,h2,h3,h4,h5,h6⟩ := hx
  exact ⟨r,base,size,rc,dr,dbase,dsize,hs _ _ h1,(hw _ h1 rfl).trans h2,hs _ _ h3,h4,fun t ht => (h5 t ht).mono hs,h6⟩
 | df =>
  obtain ⟨r,base,size,h1,h2,h3⟩ := hx
  exact ⟨r,base,size,hs _ _ h1,(hw _ h1 rfl).trans h2,h3⟩
 | _ => trivial
theorem BlkRel.name {x : AV} (hx : BlkRel σ w0 B w b x) (hl : live x = true) : ∃ p,σ b = some p := by
 cases x with
 | cells ty n ro t => obtain ⟨r,base,size,cs,fr,tt,h1,_⟩ := hx; exact ⟨_,h1⟩
 | mp l => obtain ⟨r,base,size,es,clock,h1,_⟩ := hx; exact ⟨_,h1⟩
 | lp n ps assign body tm st pend db => obtain ⟨r,base,size,rc,dr,dbase,dsize,h1,_⟩ := hx; exact ⟨_,h1⟩
 | df => obtain ⟨r,base,size,h1,_⟩ := hx; exact ⟨_,h1⟩
 | _ => simp [live] at hl
theorem BlkRel.wr {x : AV} {p : Pl} (hx : BlkRel σ w0 B w b x) (hl : liveW x = true) (hb : σ b = some p) : B.wr p.1 ∨ w0.heap.size ≤ p.1 := by
 cases x with
 | cells ty n ro t =>
  obtain ⟨r,base,size,cs,fr,tt,g1,_,_,_,_,g6,_⟩ := hx
  rw [hb] at g1; simp only [Option.some.injEq] at g1; subst g1
  simp only [liveW,Bool.not_eq_true'] at hl
  exact (g6 hl).2
 | mp l =>
  obtain ⟨r,base,size,es,clock,g1,_,_,g4⟩ := hx
  rw [hb] at g1; simp only [Option.some.injEq] at g1; subst g1
  exact g4
 | lp n ps assign body tm st pend db =>
  obtain ⟨r,base,size,rc,dr,dbase,dsize,g1,_,_,_,_,g6⟩ := hx
  rw [hb] at g1; simp only [Option.some.injEq] at g1; subst g1
  exact g6
 | df =>
  obtain ⟨r,base,size,g1,_,g3⟩ := hx
  rw [hb] at g1; simp only [Option.some.injEq] at g1; subst g1
  exact g3
 | _ => simp [liveW] at hl
theorem BlkRel.rebase {x : AV} {w1 : World} {B' : Fr} (hx : BlkRel σ w0 B w b x) (h : ∀ p,σ b = some p → liveW x = true → (B'.wr p.1 ∨ w1.heap.size ≤ p.1)) : BlkRel σ w1 B' w b x := by
 cases x with
 | cells ty n ro t =>
  obtain ⟨r,base,size,cs,fr,tt,g1,g2,g3,g4,g5,g6,g7⟩ := hx
  exact ⟨r,base,size,cs,fr,tt,g1,g2,g3,g4,g5,fun hr => ⟨(g6 hr).1,h _ g1 (by simp [liveW,hr])⟩,g7⟩
 | mp l =>
  obtain ⟨r,base,size,es,clock,g1,g2,g3,g4⟩ := hx
  exact ⟨r,base,size,es,clock,g1,g2,g3,h _ g1 rfl⟩
 | lp n ps assign body tm st pend db =>
  obtain ⟨r,base,size,rc,dr,dbase,dsize,g1,g2,g3,g4,g5,g6⟩ := hx
  exact ⟨r,base,size,rc,dr,dbase,dsize,g1,g2,g3,g4,g5,h _ g1 rfl⟩
 | df =>
  obtain ⟨r,base,size,g1,g2,g3⟩ := hx
  exact ⟨r,base,size,g1,g2,h _ g1 rfl⟩
 | _ => trivial
theorem HS.lt (H : HS σ h nx w0 B w) {p : Pl} (hb : σ b = some p) : b < 2 ^ HD := Nat.lt_of_lt_of_le (H.dom b p hb) H.nxle
theorem HS.cells (H : HS σ h nx w0 B w) {r base size ty n : Nat} {ro : Bool} {t : AV} (hb : σ b = some (r,base,size)) (hc : cget HD h b = .cells ty n ro t) :
  ∃ cs fr tt,w.heap[r]? = some (.cells cs tt fr) ∧ cs.size = size ∧ (base = 0 ∧ base + n ≤ size ∧ (ty % 2 = 1 → n = size)) ∧ (∀ i,i < n → ∃ v,cs[base + i]? = some v ∧ K.one v = true ∧ Rel σ (cget (lg n) t i) v) ∧ (ro = false → Calm fr size ∧ (B.wr r ∨ w0.heap.size ≤ r)) ∧ ((ro = false ∨ ty % 2 = 1) → tt = ty / 2) := by
 have := H.blk b (H.lt hb)
 rw [hc] at this
 obtain ⟨r',base',size',cs,fr,tt,h1,h2,h3,h4,h5,h6⟩ := this
 rw [hb] at h1
 simp only [Option.some.injEq,Prod.mk.injEq] at h1
 obtain ⟨rfl,rfl,rfl⟩ := h1
 exact ⟨cs,fr,tt,h2,h3,h4,h5,h6⟩
theorem HS.cellsT (H : HS σ h nx w0 B w) {r base size ty n : Nat} {ro : Bool} {t : AV} (hb : σ b = some (r,base,size)) (hc : cget HD h b = .cells ty n ro t) (hk : ro = false ∨ ty % 2 = 1) :
  ∃ cs fr,w.heap[r]? = some (.cells cs (ty / 2) fr) ∧ cs.size = size ∧ (base = 0 ∧ base + n ≤ size ∧ (ty % 2 = 1 → n = size)) ∧ (∀ i,i < n → ∃ v,cs[base + i]? = some v ∧ K.one v = true ∧ Rel σ (cget (lg n) t i) v) ∧ (ro = false → Calm fr size ∧ (B.wr r ∨ w0.heap.size ≤ r)) := by
 obtain ⟨cs,fr,tt,h1,h2,h3,h4,h5,h6⟩ := H.cells hb hc
 rw [h6 hk] at h1
 exact ⟨cs,fr,h1,h2,h3,h4,h5⟩
theorem HS.drew (H : HS σ h nx w0 B w) : HS σ h nx w0 B { w with drawn := w.drawn + 1 } :=
 ⟨H.os,H.tape,H.output,H.size,H.block,fun b hb => (H.blk b hb).mono (fun _ _ h => h) (fun _ _ _ => rfl),H.dom,H.nxle,H.dist,H.acc⟩
theorem lt_of_get {k : Nat} {o : Obj} (h : w.heap[k]? = some o) : k < w.heap.size := K.lt_of_get h
def ext (σ : Sg) (nx : Nat) (p : Pl) : Sg := fun b => if b = nx then some p else σ b
theorem HS.sub_ext (H : HS σ h nx w0 B w) (p : Pl) : Sub σ (ext σ nx p) := by
 intro b q hb
 have := H.dom b q hb
 unfold ext
 rw [if_neg (by omega)]; exact hb
theorem HS.real_lt (H : HS σ h nx w0 B w) {p : Pl} (hb : σ b = some p) (hl : live (cget HD h b) = true) : p.1 < w.heap.size := by
 have := H.blk b (H.lt hb)
 cases hx : cget HD h b with
 | cells ty n ro t =>
  rw [hx] at this
  obtain ⟨r,base,size,cs,fr,tt,h1,h2,_⟩ := this
  rw [hb] at h1; simp only [Option.some.injEq] at h1; subst h1
  exact lt_of_get h2
 | mp l =>
  rw [hx] at this
  obtain ⟨r,base,size,es,clock,h1,h2,_⟩ := this
  rw [hb] at h1; simp only [Option.some.injEq] at h1; subst h1
  exact lt_of_get h2
 | lp n ps assign body tm st pend db =>
  rw [hx] at this
  obtain ⟨r,base,size,rc,dr,dbase,dsize,h1,h2,_⟩ := this
  rw [hb] at h1; simp only [Option.some.injEq] at h1; subst h1
  exact lt_of_get h2
 | df =>
  rw [hx] at this
  obtain ⟨r,base,size,h1,h2,_⟩ := this
  rw [hb] at h1; simp only [Option.some.injEq] at h1; subst h1
  exact lt_of_get h2
 | _ => rw [hx] at hl; simp [live] at hl
theorem HS.new (H : HS σ h nx w0 B w) (hnx : nx < 2 ^ HD) {x : AV} {o : Obj} {p : Pl} (hp : p.1 = w.heap.size) (hw : w'.heap = w.heap.push o) (h1 : w'.os = w.os) (h2 : w'.tape = w.tape) (h3 : w'.output = w.output)
  (hx : BlkRel (ext σ nx p) w0 B w' nx x) : HS (ext σ nx p) (cput HD h nx x) (nx + 1) w0 B w' := by
 have hold : ∀ k,k < w.heap.size → w'.heap[k]? = w.heap[k]? := fun k hk => by rw [hw,Array.getElem?_push,if_neg (by omega)]
 have hget : ∀ b,b < 2 ^ HD → cget HD (cput HD h nx x) b = if b = nx then x else cget HD h b := fun b hb => cget_cput HD h nx b x hnx hb
 refine ⟨h1.trans H.os,h2.trans H.tape,h3.trans H.output,by rw [hw]; simp; have := H.size; omega,fun k hk hB => ?_,fun b hb => ?_,fun b q hb => ?_,hnx,fun b b' q q' hne hb hb' hl hl' => ?_,fun b q hb hl => ?_⟩
 ·rw [hold k (by have := H.size; omega)]; exact H.block k hk hB
 ·rw [hget b hb]
  by_cases hbn : b = nx
  ·rw [if_pos hbn,hbn]; exact hx
  ·rw [if_neg hbn]
   exact (H.blk b hb).mono (H.sub_ext p) (fun q hq hl => hold _ (H.real_lt hq hl))
 ·unfold ext at hb
  by_cases hbn : b = nx
  ·omega
  ·rw [if_neg hbn] at hb; have := H.dom b q hb; omega
 ·have hblt : b < 2 ^ HD := by
   by_cases hbn : b = nx
   ·omega
   ·unfold ext at hb; rw [if_neg hbn] at hb; exact H.lt hb
  have hblt' : b' < 2 ^ HD := by
   by_cases hbn : b' = nx
   ·omega
   ·unfold ext at hb'; rw [if_neg hbn] at hb'; exact H.lt hb'
  rw [hget b hblt] at hl
  rw [hget b' hblt'] at hl'
  by_cases hbn : b = nx
  ·have hbn' : b' ≠ nx := fun h => hne (hbn.trans h.symm)
   unfold ext at hb hb'
   rw [if_pos hbn] at hb
   rw [if_neg hbn'] at hb' hl'
   simp only [Option.some.injEq] at hb
   have := H.real_lt hb' hl'
   rw [← hb,hp]; omega
  ·unfold ext at hb hb'
   rw [if_neg hbn] at hb hl
   by_cases hbn' : b' = nx
   ·rw [if_pos hbn'] at hb'
    simp only [Option.some.injEq] at hb'
    have hlb : live (cget HD h b) = true := live_of hl
    have := H.real_lt hb hlb
    rw [← hb',hp]; omega
   ·rw [if_neg hbn'] at hb' hl'
    exact H.dist b b' q q' hne hb hb' hl hl'
 ·have hblt : b < 2 ^ HD := by
   by_cases hbn : b = nx
   ·omega
   ·unfold ext at hb; rw [if_neg hbn] at hb; exact H.lt hb
  rw [hget b hblt] at hl
  unfold ext at hb
  by_cases hbn : b = nx
  ·rw [if_pos hbn] at hb
   simp only [Option.some.injEq] at hb
   rw [← hb,hp]; exact .inr H.size
  ·rw [if_neg hbn] at hb hl
   exact H.acc b q hb hl
theorem HS.upd (H : HS σ h nx w0 B w) {p : Pl} (hb : σ b = some p) (hl : liveW (cget HD h b) = true) (hm : B.wr p.1 ∨ w0.heap.size ≤ p.1) {x : AV} {o : Obj} (hw : w'.heap = w.heap.setIfInBounds p.1 o) (h1 : w'.os = w.os) (h2 : w'.tape = w.tape) (h3 : w'.output = w.output)
  (hx : BlkRel σ w0 B w' b x) : HS σ (cput HD h b x) nx w0 B w' := by
 have hold : ∀ k,k ≠ p.1 → w'.heap[k]? = w.heap[k]? := fun k hk => by rw [hw]; simp [Ne.symm hk]
 have hblt := H.lt hb
 have hget : ∀ c,c < 2 ^ HD → cget HD (cput HD h b x) c = if c = b then x else cget HD h c := fun c hc => cget_cput HD h b c x hblt hc
 refine ⟨h1.trans H.os,h2.trans H.tape,h3.trans H.output,by rw [hw]; simpa using H.size,fun k hk hB => ?_,fun c hc => ?_,H.dom,H.nxle,fun c c' q q' hne hc hc' hlc hlc' => ?_,fun c q hc hlc => ?_⟩
 ·have : k ≠ p.1 := fun e => by
   rcases hm with hm | hm
   ·exact hB (e ▸ hm)
   ·omega
  rw [hold k this]; exact H.block k hk hB
 ·rw [hget c hc]
  by_cases hcb : c = b
  ·rw [if_pos hcb,hcb]; exact hx
  ·rw [if_neg hcb]
   exact (H.blk c hc).mono (fun _ _ h => h) (fun q hq hlc => hold _ (fun e => H.dist b c p q (fun h => hcb h.symm) hb hq hl hlc e.symm))
 ·rw [hget c (H.lt hc)] at hlc
  rw [hget c' (H.lt hc')] at hlc'
  by_cases hcb : c = b
  ·have hcb' : c' ≠ b := fun h => hne (hcb.trans h.symm)
   rw [if_neg hcb'] at hlc'
   subst hcb
   exact H.dist c c' q q' hne hc hc' hl hlc'
  ·rw [if_neg hcb] at hlc
   by_cases hcb' : c' = b
   ·subst hcb'
    have hlb : live (cget HD h c') = true := live_of hl
    exact H.dist c c' q q' hne hc hc' hlc hlb
   ·rw [if_neg hcb'] at hlc'
    exact H.dist c c' q q' hne hc hc' hlc hlc'
 ·rw [hget c (H.lt hc)] at hlc
  by_cases hcb : c = b
  ·subst hcb
   have hlb : live (cget HD h c) = true := live_of hl
   exact H.acc c q hc hlb
  ·rw [if_neg hcb] at hlc
   exact H.acc c q hc hlc
theorem HS.kill (H : HS σ h nx w0 B w) (hb : b < 2 ^ HD) : HS σ (cput HD h b .dead) nx w0 B w := by
 have hget : ∀ c,c < 2 ^ HD → cget HD (cput HD h b .dead) c = if c = b then .dead else cget HD h c := fun c hc => cget_cput HD h b c .dead hb hc
 refine ⟨H.os,H.tape,H.output,H.size,H.block,fun c hc => ?_,H.dom,H.nxle,fun c c' q q' hne hc hc' hlc hlc' => ?_,fun c q hc hlc => ?_⟩
 ·rw [hget c hc]
  by_cases hcb : c = b
  ·rw [if_pos hcb]; trivial
  ·rw [if_neg hcb]; exact H.blk c hc
 ·rw [hget c (H.lt hc)] at hlc
  rw [hget c' (H.lt hc')] at hlc'
  split at hlc
  ·simp [liveW] at hlc
  ·split at hlc'
   ·simp [live] at hlc'
   ·exact H.dist c c' q q' hne hc hc' hlc hlc'
 ·rw [hget c (H.lt hc)] at hlc
  split at hlc
  ·simp [live] at hlc
  ·exact H.acc c q hc hlc
theorem HS.rename (H : HS σ h nx w0 B w) (hnx : nx < 2 ^ HD) {p q : Pl} (hb : σ b = some p) (hl : liveW (cget HD h b) = true) (hm : B.wr p.1 ∨ w0.heap.size ≤ p.1) (hq : q.1 = p.1) {x : AV} {o : Obj} (hw : w'.heap = w.heap.setIfInBounds p.1 o)
  (h1 : w'.os = w.os) (h2 : w'.tape = w.tape) (h3 : w'.output = w.output) (hx : BlkRel (ext σ nx q) w0 B w' nx x) :
  HS (ext σ nx q) (cput HD (cput HD h b .dead) nx x) (nx + 1) w0 B w' := by
 have hK : HS σ (cput HD h b .dead) nx w0 B w' := H.upd hb hl hm hw h1 h2 h3 trivial
 have hblt := H.lt hb
 have hbnx := H.dom b p hb
 have hgb : cget HD (cput HD h b .dead) b = .dead := by rw [cget_cput HD h b b .dead hblt hblt,if_pos rfl]
 have hget : ∀ c,c < 2 ^ HD → cget HD (cput HD (cput HD h b .dead) nx x) c = if c = nx then x else cget HD (cput HD h b .dead) c := fun c hc => cget_cput HD _ nx c x hnx hc
 have hother : ∀ c u,c ≠ b → σ c = some u → live (cget HD h c) = true → u.1 ≠ p.1 := fun c u hcb hc hlc e => H.dist b c p u (fun h => hcb h.symm) hb hc hl hlc e.symm
 have hk : ∀ c,c ≠ b → c < 2 ^ HD → cget HD (cput HD h b .dead) c = cget HD h c := fun c hc hlt => by rw [cget_cput HD h b c .dead hblt hlt,if_neg hc]
 have hne2 : ∀ c u,σ c = some u → live (cget HD (cput HD h b .dead) c) = true → u.1 ≠ q.1 := by
  intro c u hc hlc
  have hcb : c ≠ b := fun e => by rw [e,hgb] at hlc; simp [live] at hlc
  rw [hk c hcb (H.lt hc)] at hlc
  rw [hq]; exact hother c u hcb hc hlc
 refine ⟨hK.os,hK.tape,hK.output,hK.size,hK.block,fun c hc => ?_,fun c u hc => ?_,hnx,fun c c' u u' hne hc hc' hlc hlc' => ?_,fun c u hc hlc => ?_⟩
 ·rw [hget c hc]
  by_cases hcn : c = nx
  ·rw [if_pos hcn,hcn]; exact hx
  ·rw [if_neg hcn]; exact (hK.blk c hc).mono (hK.sub_ext q) (fun _ _ _ => rfl)
 ·unfold ext at hc
  by_cases hcn : c = nx
  ·omega
  ·rw [if_neg hcn] at hc; have := H.dom c u hc; omega
 ·have hlt : ∀ c u,ext σ nx q c = some u → c < 2 ^ HD := fun c u hc => by
   by_cases hcn : c = nx
   ·omega
   ·unfold ext at hc; rw [if_neg hcn] at hc; exact H.lt hc
  rw [hget c (hlt c u hc)] at hlc
  rw [hget c' (hlt c' u' hc')] at hlc'
  unfold ext at hc hc'
  by_cases hcn : c = nx
  ·have hcn' : c' ≠ nx := fun h => hne (hcn.trans h.symm)
   rw [if_pos hcn] at hc
   rw [if_neg hcn'] at hc' hlc'
   simp only [Option.some.injEq] at hc
   have := hne2 c' u' hc' hlc'
   rw [← hc]; exact fun e => this e.symm
  ·rw [if_neg hcn] at hc hlc
   have hlcl : live (cget HD (cput HD h b .dead) c) = true := live_of hlc
   by_cases hcn' : c' = nx
   ·rw [if_pos hcn'] at hc'
    simp only [Option.some.injEq] at hc'
    rw [← hc']; exact hne2 c u hc hlcl
   ·rw [if_neg hcn'] at hc' hlc'
    exact hK.dist c c' u u' hne hc hc' hlc hlc'
 ·have hlt : c < 2 ^ HD := by
   by_cases hcn : c = nx
   ·omega
   ·unfold ext at hc; rw [if_neg hcn] at hc; exact H.lt hc
  rw [hget c hlt] at hlc
  unfold ext at hc
  by_cases hcn : c = nx
  ·rw [if_pos hcn] at hc
   simp only [Option.some.injEq] at hc
   have hlb : live (cget HD h b) = true := live_of hl
   rw [← hc,hq]; exact H.acc b p hb hlb
  ·rw [if_neg hcn] at hc hlc
   exact hK.acc c u hc hlc
end
end I
end Go.Proofs.YtojefiolcedigaaGreatDoor
