/- Texts on which the proof of this claim stands: ShaR1, ShaR2, Dg6, I15, I16, I17. -/
import Derived.Test.YtinhinjpfmdfiaaGreatDoorP4
import Derived.Test.YtinhinjpfmdfiaaGreatDoorP1
import Derived.Test.YtinhinjpfmdfiaaGreatDoorP3
import Derived.RangeFuncLeaves
import Derived.OrdersIn
import Derived.Sort.LoopGhostIn
namespace Go.Proofs.YtinhinjpfmdfiaaGreatDoor
open K
set_option linter.unusedVariables false
theorem tm_lt (x : Int) : (x % 4294967296).toNat < 2 ^ 32 := by omega
theorem rotr_or (x a b : Nat) : (x / b) ||| (x * a % 4294967296) = rotl x a b := Nat.or_comm _ _
def ck (l : List UInt8) (q : Nat) : List UInt8 := (l.drop (64 * q)).take 64
theorem ck_get {l : List UInt8} {q j i : Nat} (hj : j < 64) (hi : i = 64 * q + j) : bt4 (ck l q) j = (l.getD i 0).toNat := by
 unfold bt4 ck
 rw [List.getD_eq_getElem?_getD,List.getElem?_take,if_pos hj,List.getElem?_drop,List.getD_eq_getElem?_getD,hi]
def LB (s : ByteArray) (j : Nat) : List UInt8 := s.data.toList ++ (128 :: List.replicate j 0)
def LC (s : ByteArray) (k : Nat) : List UInt8 := LB s ((119 - s.size % 64) % 64) ++ (List.range k).map (tb (lb s.size))
theorem bv_snoc (l : List UInt8) (c : UInt8) : (bv l).toList ++ [Value.int .u8 (c.toNat : Int)] = (bv (l ++ [c])).toList := by rw [← bv_app]; rfl
theorem lb_start (s : ByteArray) : (bv s.data.toList).toList ++ [Value.int .u8 128] = (bv (LB s 0)).toList := bv_snoc s.data.toList 128
theorem lb_step (s : ByteArray) (j : Nat) : (bv (LB s j)).toList ++ [Value.int .u8 0] = (bv (LB s (j + 1))).toList := by
 have := bv_snoc (LB s j) 0
 rw [show LB s (j + 1) = LB s j ++ [0] by unfold LB; rw [List.replicate_succ',← List.cons_append,← List.append_assoc]]
 exact this
theorem lc_start (s : ByteArray) : LB s ((119 - s.size % 64) % 64) = LC s 0 := by unfold LC; simp
theorem lc_step (s : ByteArray) {k : Nat} (hk : k < 8) {x : Int} (hx : x = ((lb s.size : Int) / ((2 ^ (8 * ((7 : Int) - (k : Int))).toNat : Nat) : Int)) % 256) : (bv (LC s k)).toList ++ [Value.int .u8 x] = (bv (LC s (k + 1))).toList := by
 have e : x = ((UInt8.ofNat (lb s.size / 2 ^ (56 - 8 * k))).toNat : Int) := by
  rw [hx,show (8 * ((7 : Int) - (k : Int))).toNat = 56 - 8 * k by omega]
  simp
 rw [e,bv_snoc]
 congr 2
 unfold LC tb
 rw [List.range_succ,List.map_append,List.append_assoc]; rfl
theorem lc_end (s : ByteArray) (hs : s.size < 18446744073709551616) : LC s 8 = s.data.toList ++ un8 (tailN s.size) := by
 unfold LC LB
 rw [un8_tail,Nat.mod_eq_of_lt hs]
 simp [tlr]
theorem mm_len (s : ByteArray) : (s.data.toList ++ un8 (tailN s.size)).length = s.size + 1 + (119 - s.size % 64) % 64 + 8 := by
 unfold un8 tailN
 rw [List.length_append,List.length_map,List.length_cons,List.length_append,List.length_replicate,List.length_map,List.length_range]
 have : s.data.toList.length = s.size := ba_len s
 omega
theorem wn_eq2 (y x7 x x16 : Nat) : ((((((x16 : Int) + (wlow x : Int)) % 4294967296) + (x7 : Int)) % 4294967296) + (whigh y : Int)) % 4294967296 = ((wn4 y x7 x x16 : Nat) : Int) := by unfold wn4; omega
theorem compl32 {e : Nat} (he : e < 2 ^ 32) : ((4294967295 - (e : Int)) % 4294967296).toNat = 4294967295 ^^^ e := by
 rw [show ((4294967295 - (e : Int)) % 4294967296).toNat = 2 ^ 32 - (e + 1) by omega,show (4294967295 : Nat) = 2 ^ 32 - 1 from rfl]
 apply Nat.eq_of_testBit_eq
 intro i
 rw [Nat.testBit_two_pow_sub_succ he,Nat.testBit_xor,Nat.testBit_two_pow_sub_one]
 by_cases h : i < 32
 ·simp [h]
 ·have : Nat.testBit e i = false := Nat.testBit_lt_two_pow (Nat.lt_of_lt_of_le he (Nat.pow_le_pow_right (by decide) om))
  simp [h,this]
theorem choi_eq2 {e : Nat} (he : e < 2 ^ 32) (f g : Nat) : (((((((e : Int)).toNat &&& ((f : Int)).toNat : Nat) : Int)).toNat ^^^ ((((((4294967295 - (e : Int)) % 4294967296)).toNat &&& ((g : Int)).toNat : Nat) : Int)).toNat : Nat) : Int) = ((choi e f g : Nat) : Int) := by
 unfold choi
 rw [compl32 he]; rfl
theorem wsum8 (hs vs : List Nat) {k : Nat} (hk : k < 8) (hh : hs.length = 8) : (wv (sm hs vs k)).setIfInBounds k (.int .u32 (((rg (sm hs vs k) k : Int) + (rg vs k : Int)) % 4294967296)) = wv (sm hs vs (k + 1)) := by
 rw [wv_set om,add32,Int.toNat_natCast]; rfl
theorem vrow (hs : List Nat) (bl : List UInt8) (t : Nat) : (#[.int .u32 (((frst (rg Kc t) (rg (row bl 64) t) (rv hs bl t) : Int) + (scnd (rv hs bl t) : Int)) % 4294967296),.int .u32 ((rv hs bl t).a : Int),.int .u32 ((rv hs bl t).b : Int),.int .u32 ((rv hs bl t).c : Int),.int .u32 ((((rv hs bl t).d : Int) + (frst (rg Kc t) (rg (row bl 64) t) (rv hs bl t) : Int)) % 4294967296),.int .u32 ((rv hs bl t).e : Int),.int .u32 ((rv hs bl t).f : Int),.int .u32 ((rv hs bl t).g : Int)] : Array Value) = wv (w8l (rv hs bl (t + 1))) := by
 rw [rv_a,rv_e]; rfl
theorem dsz2 (hs : List Nat) {k : Nat} (h : k ≤ 8) : (bv (dgr hs k)).size = 32 := (bv_size _).trans (dgr_len h)
theorem mo_byte {w0 w : World} {M : List Nat} {R O : List (Nat × Obj)} (h : HP w0 M R O w) {mo : MO} {e : TypeId} {l : List UInt8} (hm : (mo.b,Obj.cells ((bv l).toList ++ mo.junk).toArray e mo.fr) ∈ O) {i j q : Nat} (hl : i < l.length) (hj : j < 64) (hi : i = 64 * q + j) :
  w.cell? ⟨mo.b,i,none⟩ = some (.int .u8 ((bt4 (ck l q) j : Nat) : Int)) := by
 rw [cell_cells (h.own _ hm),ck_get hj hi]
 simp only [List.getElem?_toArray]
 rw [List.getElem?_append_left (by rw [bv_len]; exact hl),Array.getElem?_toList]
 exact bv_get (n := l.length) rfl hl
set_option maxRecDepth 100000 in
theorem rRotr7 (x : Nat) (w : World) (hx : x < 2 ^ 32) :
  Calls Tryz.prog 44 #[.int .u32 (x : Int),.int .i64 7] w fun e w' => e = .returned (.int .u32 (rotl x 33554432 128 : Int)) ∧ Ext [] w w' := by
 refine enter (vs := [.int .u32 (x : Int),.int .i64 7]) [] [] [] Tryz.func44 rfl kr (HP.start w) ?_
 refine Rg [0,1] [] n0 trivial ?_
 refine Cfg.regD rfl kr [4] [] (Γ' := [(4,[],.int .u32 (((((x : Int) / 128)).toNat ||| ((((x : Int) * 33554432) % 4294967296)).toNat : Nat) : Int))]) (nd := (fun _ => [(0 ≤ (7 : Int) ∧ 7 ≤ 32),((-9223372036854775808 : Int) ≤ (25 : Int) ∧ (25 : Int) ≤ 9223372036854775807),(0 ≤ (25 : Int) ∧ 25 ≤ 32),((0 ≤ ((x : Int) / 128) ∧ ((x : Int) / 128) ≤ 4294967295) ∧ 0 ≤ (((x : Int) * 33554432) % 4294967296) ∧ (((x : Int) * 33554432) % 4294967296) ≤ 4294967295)])) kr kr (fun _ => kr) ⟨om,om,om,om,trivial⟩ ?_
 refine Cfg.ret rfl (rs := [.tmp 4]) rfl [.int .u32 (((((x : Int) / 128)).toNat ||| ((((x : Int) * 33554432) % 4294967296)).toNat : Nat) : Int)] ⟨kr,trivial⟩ (fun w1 hp => ?_)
 refine ⟨?_,hp.ext⟩
 rw [← rotr_or,show x * 33554432 % 4294967296 = ((x : Int) * 33554432 % 4294967296).toNat by omega,show x / 128 = ((x : Int) / 128).toNat by omega]
 rfl
set_option maxRecDepth 100000 in
theorem rRotr18 (x : Nat) (w : World) (hx : x < 2 ^ 32) :
  Calls Tryz.prog 44 #[.int .u32 (x : Int),.int .i64 18] w fun e w' => e = .returned (.int .u32 (rotl x 16384 262144 : Int)) ∧ Ext [] w w' := by
 refine enter (vs := [.int .u32 (x : Int),.int .i64 18]) [] [] [] Tryz.func44 rfl kr (HP.start w) ?_
 refine Rg [0,1] [] n0 trivial ?_
 refine Cfg.regD rfl kr [4] [] (Γ' := [(4,[],.int .u32 (((((x : Int) / 262144)).toNat ||| ((((x : Int) * 16384) % 4294967296)).toNat : Nat) : Int))]) (nd := (fun _ => [(0 ≤ (18 : Int) ∧ 18 ≤ 32),((-9223372036854775808 : Int) ≤ (14 : Int) ∧ (14 : Int) ≤ 9223372036854775807),(0 ≤ (14 : Int) ∧ 14 ≤ 32),((0 ≤ ((x : Int) / 262144) ∧ ((x : Int) / 262144) ≤ 4294967295) ∧ 0 ≤ (((x : Int) * 16384) % 4294967296) ∧ (((x : Int) * 16384) % 4294967296) ≤ 4294967295)])) kr kr (fun _ => kr) ⟨om,om,om,om,trivial⟩ ?_
 refine Cfg.ret rfl (rs := [.tmp 4]) rfl [.int .u32 (((((x : Int) / 262144)).toNat ||| ((((x : Int) * 16384) % 4294967296)).toNat : Nat) : Int)] ⟨kr,trivial⟩ (fun w1 hp => ?_)
 refine ⟨?_,hp.ext⟩
 rw [← rotr_or,show x * 16384 % 4294967296 = ((x : Int) * 16384 % 4294967296).toNat by omega,show x / 262144 = ((x : Int) / 262144).toNat by omega]
 rfl
set_option maxRecDepth 100000 in
theorem rRotr17 (x : Nat) (w : World) (hx : x < 2 ^ 32) :
  Calls Tryz.prog 44 #[.int .u32 (x : Int),.int .i64 17] w fun e w' => e = .returned (.int .u32 (rotl x 32768 131072 : Int)) ∧ Ext [] w w' := by
 refine enter (vs := [.int .u32 (x : Int),.int .i64 17]) [] [] [] Tryz.func44 rfl kr (HP.start w) ?_
 refine Rg [0,1] [] n0 trivial ?_
 refine Cfg.regD rfl kr [4] [] (Γ' := [(4,[],.int .u32 (((((x : Int) / 131072)).toNat ||| ((((x : Int) * 32768) % 4294967296)).toNat : Nat) : Int))]) (nd := (fun _ => [(0 ≤ (17 : Int) ∧ 17 ≤ 32),((-9223372036854775808 : Int) ≤ (15 : Int) ∧ (15 : Int) ≤ 9223372036854775807),(0 ≤ (15 : Int) ∧ 15 ≤ 32),((0 ≤ ((x : Int) / 131072) ∧ ((x : Int) / 131072) ≤ 4294967295) ∧ 0 ≤ (((x : Int) * 32768) % 4294967296) ∧ (((x : Int) * 32768) % 4294967296) ≤ 4294967295)])) kr kr (fun _ => kr) ⟨om,om,om,om,trivial⟩ ?_
 refine Cfg.ret rfl (rs := [.tmp 4]) rfl [.int .u32 (((((x : Int) / 131072)).toNat ||| ((((x : Int) * 32768) % 4294967296)).toNat : Nat) : Int)] ⟨kr,trivial⟩ (fun w1 hp => ?_)
 refine ⟨?_,hp.ext⟩
 rw [← rotr_or,show x * 32768 % 4294967296 = ((x : Int) * 32768 % 4294967296).toNat by omega,show x / 131072 = ((x : Int) / 131072).toNat by omega]
 rfl
set_option maxRecDepth 100000 in
theorem rRotr19 (x : Nat) (w : World) (hx : x < 2 ^ 32) :
  Calls Tryz.prog 44 #[.int .u32 (x : Int),.int .i64 19] w fun e w' => e = .returned (.int .u32 (rotl x 8192 524288 : Int)) ∧ Ext [] w w' := by
 refine enter (vs := [.int .u32 (x : Int),.int .i64 19]) [] [] [] Tryz.func44 rfl kr (HP.start w) ?_
 refine Rg [0,1] [] n0 trivial ?_
 refine Cfg.regD rfl kr [4] [] (Γ' := [(4,[],.int .u32 (((((x : Int) / 524288)).toNat ||| ((((x : Int) * 8192) % 4294967296)).toNat : Nat) : Int))]) (nd := (fun _ => [(0 ≤ (19 : Int) ∧ 19 ≤ 32),((-9223372036854775808 : Int) ≤ (13 : Int) ∧ (13 : Int) ≤ 9223372036854775807),(0 ≤ (13 : Int) ∧ 13 ≤ 32),((0 ≤ ((x : Int) / 524288) ∧ ((x : Int) / 524288) ≤ 4294967295) ∧ 0 ≤ (((x : Int) * 8192) % 4294967296) ∧ (((x : Int) * 8192) % 4294967296) ≤ 4294967295)])) kr kr (fun _ => kr) ⟨om,om,om,om,trivial⟩ ?_
 refine Cfg.ret rfl (rs := [.tmp 4]) rfl [.int .u32 (((((x : Int) / 524288)).toNat ||| ((((x : Int) * 8192) % 4294967296)).toNat : Nat) : Int)] ⟨kr,trivial⟩ (fun w1 hp => ?_)
 refine ⟨?_,hp.ext⟩
 rw [← rotr_or,show x * 8192 % 4294967296 = ((x : Int) * 8192 % 4294967296).toNat by omega,show x / 524288 = ((x : Int) / 524288).toNat by omega]
 rfl
set_option maxRecDepth 100000 in
theorem rRotr6 (x : Nat) (w : World) (hx : x < 2 ^ 32) :
  Calls Tryz.prog 44 #[.int .u32 (x : Int),.int .i64 6] w fun e w' => e = .returned (.int .u32 (rotl x 67108864 64 : Int)) ∧ Ext [] w w' := by
 refine enter (vs := [.int .u32 (x : Int),.int .i64 6]) [] [] [] Tryz.func44 rfl kr (HP.start w) ?_
 refine Rg [0,1] [] n0 trivial ?_
 refine Cfg.regD rfl kr [4] [] (Γ' := [(4,[],.int .u32 (((((x : Int) / 64)).toNat ||| ((((x : Int) * 67108864) % 4294967296)).toNat : Nat) : Int))]) (nd := (fun _ => [(0 ≤ (6 : Int) ∧ 6 ≤ 32),((-9223372036854775808 : Int) ≤ (26 : Int) ∧ (26 : Int) ≤ 9223372036854775807),(0 ≤ (26 : Int) ∧ 26 ≤ 32),((0 ≤ ((x : Int) / 64) ∧ ((x : Int) / 64) ≤ 4294967295) ∧ 0 ≤ (((x : Int) * 67108864) % 4294967296) ∧ (((x : Int) * 67108864) % 4294967296) ≤ 4294967295)])) kr kr (fun _ => kr) ⟨om,om,om,om,trivial⟩ ?_
 refine Cfg.ret rfl (rs := [.tmp 4]) rfl [.int .u32 (((((x : Int) / 64)).toNat ||| ((((x : Int) * 67108864) % 4294967296)).toNat : Nat) : Int)] ⟨kr,trivial⟩ (fun w1 hp => ?_)
 refine ⟨?_,hp.ext⟩
 rw [← rotr_or,show x * 67108864 % 4294967296 = ((x : Int) * 67108864 % 4294967296).toNat by omega,show x / 64 = ((x : Int) / 64).toNat by omega]
 rfl
set_option maxRecDepth 100000 in
theorem rRotr11 (x : Nat) (w : World) (hx : x < 2 ^ 32) :
  Calls Tryz.prog 44 #[.int .u32 (x : Int),.int .i64 11] w fun e w' => e = .returned (.int .u32 (rotl x 2097152 2048 : Int)) ∧ Ext [] w w' := by
 refine enter (vs := [.int .u32 (x : Int),.int .i64 11]) [] [] [] Tryz.func44 rfl kr (HP.start w) ?_
 refine Rg [0,1] [] n0 trivial ?_
 refine Cfg.regD rfl kr [4] [] (Γ' := [(4,[],.int .u32 (((((x : Int) / 2048)).toNat ||| ((((x : Int) * 2097152) % 4294967296)).toNat : Nat) : Int))]) (nd := (fun _ => [(0 ≤ (11 : Int) ∧ 11 ≤ 32),((-9223372036854775808 : Int) ≤ (21 : Int) ∧ (21 : Int) ≤ 9223372036854775807),(0 ≤ (21 : Int) ∧ 21 ≤ 32),((0 ≤ ((x : Int) / 2048) ∧ ((x : Int) / 2048) ≤ 4294967295) ∧ 0 ≤ (((x : Int) * 2097152) % 4294967296) ∧ (((x : Int) * 2097152) % 4294967296) ≤ 4294967295)])) kr kr (fun _ => kr) ⟨om,om,om,om,trivial⟩ ?_
 refine Cfg.ret rfl (rs := [.tmp 4]) rfl [.int .u32 (((((x : Int) / 2048)).toNat ||| ((((x : Int) * 2097152) % 4294967296)).toNat : Nat) : Int)] ⟨kr,trivial⟩ (fun w1 hp => ?_)
 refine ⟨?_,hp.ext⟩
 rw [← rotr_or,show x * 2097152 % 4294967296 = ((x : Int) * 2097152 % 4294967296).toNat by omega,show x / 2048 = ((x : Int) / 2048).toNat by omega]
 rfl
set_option maxRecDepth 100000 in
theorem rRotr25 (x : Nat) (w : World) (hx : x < 2 ^ 32) :
  Calls Tryz.prog 44 #[.int .u32 (x : Int),.int .i64 25] w fun e w' => e = .returned (.int .u32 (rotl x 128 33554432 : Int)) ∧ Ext [] w w' := by
 refine enter (vs := [.int .u32 (x : Int),.int .i64 25]) [] [] [] Tryz.func44 rfl kr (HP.start w) ?_
 refine Rg [0,1] [] n0 trivial ?_
 refine Cfg.regD rfl kr [4] [] (Γ' := [(4,[],.int .u32 (((((x : Int) / 33554432)).toNat ||| ((((x : Int) * 128) % 4294967296)).toNat : Nat) : Int))]) (nd := (fun _ => [(0 ≤ (25 : Int) ∧ 25 ≤ 32),((-9223372036854775808 : Int) ≤ (7 : Int) ∧ (7 : Int) ≤ 9223372036854775807),(0 ≤ (7 : Int) ∧ 7 ≤ 32),((0 ≤ ((x : Int) / 33554432) ∧ ((x : Int) / 33554432) ≤ 4294967295) ∧ 0 ≤ (((x : Int) * 128) % 4294967296) ∧ (((x : Int) * 128) % 4294967296) ≤ 4294967295)])) kr kr (fun _ => kr) ⟨om,om,om,om,trivial⟩ ?_
 refine Cfg.ret rfl (rs := [.tmp 4]) rfl [.int .u32 (((((x : Int) / 33554432)).toNat ||| ((((x : Int) * 128) % 4294967296)).toNat : Nat) : Int)] ⟨kr,trivial⟩ (fun w1 hp => ?_)
 refine ⟨?_,hp.ext⟩
 rw [← rotr_or,show x * 128 % 4294967296 = ((x : Int) * 128 % 4294967296).toNat by omega,show x / 33554432 = ((x : Int) / 33554432).toNat by omega]
 rfl
set_option maxRecDepth 100000 in
theorem rRotr2 (x : Nat) (w : World) (hx : x < 2 ^ 32) :
  Calls Tryz.prog 44 #[.int .u32 (x : Int),.int .i64 2] w fun e w' => e = .returned (.int .u32 (rotl x 1073741824 4 : Int)) ∧ Ext [] w w' := by
 refine enter (vs := [.int .u32 (x : Int),.int .i64 2]) [] [] [] Tryz.func44 rfl kr (HP.start w) ?_
 refine Rg [0,1] [] n0 trivial ?_
 refine Cfg.regD rfl kr [4] [] (Γ' := [(4,[],.int .u32 (((((x : Int) / 4)).toNat ||| ((((x : Int) * 1073741824) % 4294967296)).toNat : Nat) : Int))]) (nd := (fun _ => [(0 ≤ (2 : Int) ∧ 2 ≤ 32),((-9223372036854775808 : Int) ≤ (30 : Int) ∧ (30 : Int) ≤ 9223372036854775807),(0 ≤ (30 : Int) ∧ 30 ≤ 32),((0 ≤ ((x : Int) / 4) ∧ ((x : Int) / 4) ≤ 4294967295) ∧ 0 ≤ (((x : Int) * 1073741824) % 4294967296) ∧ (((x : Int) * 1073741824) % 4294967296) ≤ 4294967295)])) kr kr (fun _ => kr) ⟨om,om,om,om,trivial⟩ ?_
 refine Cfg.ret rfl (rs := [.tmp 4]) rfl [.int .u32 (((((x : Int) / 4)).toNat ||| ((((x : Int) * 1073741824) % 4294967296)).toNat : Nat) : Int)] ⟨kr,trivial⟩ (fun w1 hp => ?_)
 refine ⟨?_,hp.ext⟩
 rw [← rotr_or,show x * 1073741824 % 4294967296 = ((x : Int) * 1073741824 % 4294967296).toNat by omega,show x / 4 = ((x : Int) / 4).toNat by omega]
 rfl
set_option maxRecDepth 100000 in
theorem rRotr13 (x : Nat) (w : World) (hx : x < 2 ^ 32) :
  Calls Tryz.prog 44 #[.int .u32 (x : Int),.int .i64 13] w fun e w' => e = .returned (.int .u32 (rotl x 524288 8192 : Int)) ∧ Ext [] w w' := by
 refine enter (vs := [.int .u32 (x : Int),.int .i64 13]) [] [] [] Tryz.func44 rfl kr (HP.start w) ?_
 refine Rg [0,1] [] n0 trivial ?_
 refine Cfg.regD rfl kr [4] [] (Γ' := [(4,[],.int .u32 (((((x : Int) / 8192)).toNat ||| ((((x : Int) * 524288) % 4294967296)).toNat : Nat) : Int))]) (nd := (fun _ => [(0 ≤ (13 : Int) ∧ 13 ≤ 32),((-9223372036854775808 : Int) ≤ (19 : Int) ∧ (19 : Int) ≤ 9223372036854775807),(0 ≤ (19 : Int) ∧ 19 ≤ 32),((0 ≤ ((x : Int) / 8192) ∧ ((x : Int) / 8192) ≤ 4294967295) ∧ 0 ≤ (((x : Int) * 524288) % 4294967296) ∧ (((x : Int) * 524288) % 4294967296) ≤ 4294967295)])) kr kr (fun _ => kr) ⟨om,om,om,om,trivial⟩ ?_
 refine Cfg.ret rfl (rs := [.tmp 4]) rfl [.int .u32 (((((x : Int) / 8192)).toNat ||| ((((x : Int) * 524288) % 4294967296)).toNat : Nat) : Int)] ⟨kr,trivial⟩ (fun w1 hp => ?_)
 refine ⟨?_,hp.ext⟩
 rw [← rotr_or,show x * 524288 % 4294967296 = ((x : Int) * 524288 % 4294967296).toNat by omega,show x / 8192 = ((x : Int) / 8192).toNat by omega]
 rfl
set_option maxRecDepth 100000 in
theorem rRotr22 (x : Nat) (w : World) (hx : x < 2 ^ 32) :
  Calls Tryz.prog 44 #[.int .u32 (x : Int),.int .i64 22] w fun e w' => e = .returned (.int .u32 (rotl x 1024 4194304 : Int)) ∧ Ext [] w w' := by
 refine enter (vs := [.int .u32 (x : Int),.int .i64 22]) [] [] [] Tryz.func44 rfl kr (HP.start w) ?_
 refine Rg [0,1] [] n0 trivial ?_
 refine Cfg.regD rfl kr [4] [] (Γ' := [(4,[],.int .u32 (((((x : Int) / 4194304)).toNat ||| ((((x : Int) * 1024) % 4294967296)).toNat : Nat) : Int))]) (nd := (fun _ => [(0 ≤ (22 : Int) ∧ 22 ≤ 32),((-9223372036854775808 : Int) ≤ (10 : Int) ∧ (10 : Int) ≤ 9223372036854775807),(0 ≤ (10 : Int) ∧ 10 ≤ 32),((0 ≤ ((x : Int) / 4194304) ∧ ((x : Int) / 4194304) ≤ 4294967295) ∧ 0 ≤ (((x : Int) * 1024) % 4294967296) ∧ (((x : Int) * 1024) % 4294967296) ≤ 4294967295)])) kr kr (fun _ => kr) ⟨om,om,om,om,trivial⟩ ?_
 refine Cfg.ret rfl (rs := [.tmp 4]) rfl [.int .u32 (((((x : Int) / 4194304)).toNat ||| ((((x : Int) * 1024) % 4294967296)).toNat : Nat) : Int)] ⟨kr,trivial⟩ (fun w1 hp => ?_)
 refine ⟨?_,hp.ext⟩
 rw [← rotr_or,show x * 1024 % 4294967296 = ((x : Int) * 1024 % 4294967296).toNat by omega,show x / 4194304 = ((x : Int) / 4194304).toNat by omega]
 rfl
set_option maxRecDepth 100000 in
theorem rK (w : World) :
  Calls Tryz.prog 43 #[] w fun e w' => ∃ b : Nat,True ∧ e = .returned (.slice (some ⟨b,0,none⟩) 64 64) ∧ w.heap.size ≤ b ∧ w'.heap[b]? = some (.cells (wv Kc) 102 (0,0)) ∧ Ext [] w w' := by
 refine enter (vs := []) [] [] [] Tryz.func43 rfl kr (HP.start w) ?_
 refine Rg [] [] n0 trivial ?_
 refine Cfg.begL rfl ?_
 refine Le (Eff.buildSlice (e := 102) (cells := (wv Kc)) (parts := #[(0,.int .u32 1116352408),(1,.int .u32 1899447441),(2,.int .u32 3049323471),(3,.int .u32 3921009573),(4,.int .u32 961987163),(5,.int .u32 1508970993),(6,.int .u32 2453635748),(7,.int .u32 2870763221),(8,.int .u32 3624381080),(9,.int .u32 310598401),(10,.int .u32 607225278),(11,.int .u32 1426881987),(12,.int .u32 1925078388),(13,.int .u32 2162078206),(14,.int .u32 2614888103),(15,.int .u32 3248222580),(16,.int .u32 3835390401),(17,.int .u32 4022224774),(18,.int .u32 264347078),(19,.int .u32 604807628),(20,.int .u32 770255983),(21,.int .u32 1249150122),(22,.int .u32 1555081692),(23,.int .u32 1996064986),(24,.int .u32 2554220882),(25,.int .u32 2821834349),(26,.int .u32 2952996808),(27,.int .u32 3210313671),(28,.int .u32 3336571891),(29,.int .u32 3584528711),(30,.int .u32 113926993),(31,.int .u32 338241895),(32,.int .u32 666307205),(33,.int .u32 773529912),(34,.int .u32 1294757372),(35,.int .u32 1396182291),(36,.int .u32 1695183700),(37,.int .u32 1986661051),(38,.int .u32 2177026350),(39,.int .u32 2456956037),(40,.int .u32 2730485921),(41,.int .u32 2820302411),(42,.int .u32 3259730800),(43,.int .u32 3345764771),(44,.int .u32 3516065817),(45,.int .u32 3600352804),(46,.int .u32 4094571909),(47,.int .u32 275423344),(48,.int .u32 430227734),(49,.int .u32 506948616),(50,.int .u32 659060556),(51,.int .u32 883997877),(52,.int .u32 958139571),(53,.int .u32 1322822218),(54,.int .u32 1537002063),(55,.int .u32 1747873779),(56,.int .u32 1955562222),(57,.int .u32 2024104815),(58,.int .u32 2227730452),(59,.int .u32 2361852424),(60,.int .u32 2428436474),(61,.int .u32 2756734187),(62,.int .u32 3204031479),(63,.int .u32 3329325298)]) rfl kr (fun _ => kr)) ?_
 rintro b ⟨hb,nb⟩
 refine Lp 1 [] (some [0]) n0 trivial ?_
 refine CfgL.done rfl ?_
 refine Cfg.ret rfl (rs := [.tmp 0]) rfl [.slice (some ⟨b,0,none⟩) 64 64] ⟨kr,trivial⟩ (fun w1 hp => ?_)
 exact ⟨b,trivial,rfl,hb,hp.own (b,_) (List.mem_cons_self ..),hp.ext⟩
end Go.Proofs.YtinhinjpfmdfiaaGreatDoor
namespace Go.Proofs.YtinhinjpfmdfiaaGreatDoor
open K
set_option linter.unusedVariables false
set_option maxRecDepth 100000 in
set_option maxHeartbeats 4000000 in
theorem rSum (s : ByteArray) (w : World) (hsz : s.size ≤ 100000000) :
  Calls Tryz.prog 27 #[.string s] w fun e w' => e = .returned (.agg (bv (shaD s.data.toList))) ∧ Ext [] w w' := by
 refine enter (vs := [.string s]) [] [] [] Tryz.func27 rfl kr (HP.start w) ?_
 refine Cfg.begL rfl ?_
 refine Le (Eff.alloc (z := (.agg (bv (List.replicate 32 0)))) rfl kr) ?_
 rintro rs ⟨hrs,nrs⟩
 refine CfgL.done rfl ?_
 refine Cfg.begL rfl ?_
 refine Lp 1 [] (some [2,25]) n0 trivial ?_
 refine Le (Eff.toBytes rfl Tryz.underlying9 Tryz.underlying25 Tryz.underlying5 (t := s) kr [(rs,.cells (bv (List.replicate 32 0)) 35 (0,0))] [] rfl) ?_
 rintro mo kmo
 refine Lp 1 [] (some [2,3]) n0 trivial ?_
 refine CfgL.done rfl ?_
 refine Rg [2,3,4] [] n0 trivial ?_
 refine Cg (Γ' := [(4,[],.int .u64 ((((s.size : Int) % 18446744073709551616) * 8) % 18446744073709551616)),(3,[],.slice (some ⟨mo.b,0,none⟩) s.size mo.cap),(2,[],.pointer (some ⟨rs,0,none⟩))]) ?_
 refine Cfg.setG (congrArg (fun (xq : Int) => ([(4,[],.int .u64 xq),(3,[],.slice (some ⟨mo.b,0,none⟩) s.size mo.cap),(2,[],.pointer (some ⟨rs,0,none⟩))] : Env)) (show _ = ((lb s.size) : Int) from by unfold lb; omega)) ?_
 refine Cfg.begL rfl ?_
 refine Lp 1 [] none n0 trivial ?_
 refine Le (Eff.buildSlice (e := 5) (cells := #[.int .u8 128]) (parts := #[(0,.int .u8 128)]) rfl kr (fun _ => kr)) ?_
 rintro bk2 ⟨hbk2,nbk2⟩
 refine Le (Eff.appendM rfl Tryz.underlying25 kr (z := .int .u8 0) kr rfl mo kmo kr (b2 := bk2) (off2 := 0) (c2 := 1) kr (.int .u8 128) rfl [(bk2,.cells #[.int .u8 128] 5 (0,0)),(rs,.cells (bv (List.replicate 32 0)) 35 (0,0))] [] rfl (fun w1 h => h.ocell 0 rfl rfl) om) ?_
 rintro mo1 kmo1
 refine Lp 1 [] (some [2,3,4]) n0 trivial ?_
 refine CfgL.done rfl ?_
 refine Cfg.setO (congrArg (fun (xq : List Value) => (([(bk2,.cells #[.int .u8 128] 5 (0,0)),(rs,.cells (bv (List.replicate 32 0)) 35 (0,0))] ++ (MO.o 5 xq mo1 ++ [])) : List (Nat × Obj))) (show _ = ((bv (LB s 0)).toList) from lb_start s)) ?_
 refine Cfg.loop rfl (ι := Nat × MO) (fun (xz : Nat × MO) => match xz with | (j,mo) => [(3,[],.slice (some ⟨mo.b,0,none⟩) (s.size + 1 + j) mo.cap),(4,[],.int .u64 ((lb s.size) : Int)),(2,[],.pointer (some ⟨rs,0,none⟩))]) (fun (xz : Nat × MO) => match xz with | (j,mo) => ([(rs,.cells (bv (List.replicate 32 0)) 35 (0,0))] ++ (MO.o 5 ((bv (LB s j)).toList) mo ++ []))) (fun (xz : Nat × MO) => match xz with | (j,mo) => (j ≤ ((119 - s.size % 64) % 64)) ∧ (MOk mo (s.size + 1 + j) (bv (LB s j)).toList)) (fun (xz : Nat × MO) => match xz with | (j,mo) => ((119 - s.size % 64) % 64) - j) (0,mo1) ?_ (Conv.mk kr) (.cons _ (.cons_cons _ (List.Sublist.trans (List.Sublist.refl _) (List.sublist_append_right _ _)))) ?_
 ·exact ⟨Nat.zero_le _,lb_start s ▸ kmo1⟩
 ·rintro ⟨j,mo⟩ ⟨hj,kmo⟩
  refine Rg [2,3,4,37] [] (fun _ => [(0 ≤ (((s.size + 1 + j) : Nat) : Int) ∧ 0 < (64 : Int))]) ⟨om,trivial⟩ ?_
  refine Cfg.cond rfl (b := (((((s.size + 1 + j) : Nat) : Int) % 64) != (56 : Int))) kr (fun c1r => ?_) (fun c1r => ?_)
  ·have c1 := (bne_iff_ne.1 c1r)
   refine Cfg.begL rfl ?_
   refine Lp 1 [] (some [2,3,4,38]) n0 trivial ?_
   refine Le (Eff.buildSlice (e := 5) (cells := #[.int .u8 0]) (parts := #[(0,.int .u8 0)]) rfl kr (fun _ => kr)) ?_
   rintro bk3 ⟨hbk3,nbk3⟩
   refine Le (Eff.appendM rfl Tryz.underlying25 kr (z := .int .u8 0) kr rfl mo kmo kr (b2 := bk3) (off2 := 0) (c2 := 1) kr (.int .u8 0) rfl [(bk3,.cells #[.int .u8 0] 5 (0,0)),(rs,.cells (bv (List.replicate 32 0)) 35 (0,0))] [] rfl (fun w1 h => h.ocell 0 rfl rfl) om) ?_
   rintro mo2 kmo2
   refine Lp 1 [] (some [2,3,4]) n0 trivial ?_
   refine CfgL.done rfl ?_
   refine Cfg.setO (congrArg (fun (xq : List Value) => (([(bk3,.cells #[.int .u8 0] 5 (0,0)),(rs,.cells (bv (List.replicate 32 0)) 35 (0,0))] ++ (MO.o 5 xq mo2 ++ [])) : List (Nat × Obj))) (show _ = ((bv (LB s (j + 1))).toList) from lb_step s j)) ?_
   refine Cfg.again rfl (j + 1,mo2) ⟨by omega,lb_step s j ▸ kmo2⟩ (by show ((119 - s.size % 64) % 64) - (j + 1) < ((119 - s.size % 64) % 64) - j; omega) (Conv.mk kr) (.cons _ (.cons_cons _ (List.Sublist.refl _)))
  ·have c1 := (bne_eq_false_iff_eq.1 c1r)
   obtain rfl : j = ((119 - s.size % 64) % 64) := by omega
   refine Conv.cfg (Γ' := [(3,[],.slice (some ⟨mo.b,0,none⟩) (s.size + 1 + ((119 - s.size % 64) % 64)) mo.cap),(4,[],.int .u64 ((lb s.size) : Int)),(2,[],.pointer (some ⟨rs,0,none⟩))]) (Conv.mk kr) ?_
   refine Rg [2,3,4,5] [] n0 trivial ?_
   refine Cfg.setO (congrArg (fun (xq : List Value) => (([(rs,.cells (bv (List.replicate 32 0)) 35 (0,0))] ++ (MO.o 5 xq mo ++ [])) : List (Nat × Obj))) (show _ = ((bv (LC s 0)).toList) from by rw [lc_start])) ?_
   refine Cfg.loop rfl (ι := Nat × MO) (fun (xz : Nat × MO) => match xz with | (k,mo) => [(5,[],.int .i64 ((7 : Int) - (k : Int))),(3,[],.slice (some ⟨mo.b,0,none⟩) (s.size + 1 + ((119 - s.size % 64) % 64) + k) mo.cap),(4,[],.int .u64 ((lb s.size) : Int)),(2,[],.pointer (some ⟨rs,0,none⟩))]) (fun (xz : Nat × MO) => match xz with | (k,mo) => ([(rs,.cells (bv (List.replicate 32 0)) 35 (0,0))] ++ (MO.o 5 ((bv (LC s k)).toList) mo ++ []))) (fun (xz : Nat × MO) => match xz with | (k,mo) => (k ≤ 8) ∧ (MOk mo (s.size + 1 + ((119 - s.size % 64) % 64) + k) (bv (LC s k)).toList)) (fun (xz : Nat × MO) => match xz with | (k,mo) => 8 - k) (0,mo) ?_ (Conv.mk kr) (.cons_cons _ (List.Sublist.refl _)) ?_
   ·exact ⟨Nat.zero_le _,lc_start s ▸ kmo⟩
   ·rintro ⟨k,mo⟩ ⟨hk,kmo⟩
    refine Rg [2,3,4,5,42] [] n0 trivial ?_
    refine Cfg.cond rfl (b := (decide (((7 : Int) - (k : Int)) ≥ (0 : Int)))) kr (fun c2r => ?_) (fun c2r => ?_)
    ·have c2 := (of_decide_eq_true c2r)
     refine Cfg.begL rfl ?_
     refine CfgL.pure 6 [] (some [2,3,4,5,45,50]) (Γ' := [(50,[],.int .u8 ((((lb s.size) : Int) / ((2 ^ ((8 * ((7 : Int) - (k : Int)))).toNat : Nat) : Int)) % 256)),(45,[],.slice (some ⟨mo.b,0,none⟩) (s.size + 1 + ((119 - s.size % 64) % 64) + k) mo.cap),(5,[],.int .i64 ((7 : Int) - (k : Int))),(3,[],.slice (some ⟨mo.b,0,none⟩) (s.size + 1 + ((119 - s.size % 64) % 64) + k) mo.cap),(4,[],.int .u64 ((lb s.size) : Int)),(2,[],.pointer (some ⟨rs,0,none⟩))]) (nd := (fun _ => [((-9223372036854775808 : Int) ≤ (8 * ((7 : Int) - (k : Int))) ∧ (8 * ((7 : Int) - (k : Int))) ≤ 9223372036854775807),(0 ≤ (8 * ((7 : Int) - (k : Int))) ∧ ((8 * ((7 : Int) - (k : Int)))).toNat ≤ 64)])) kr (fun _ => kr) ⟨om,om,trivial⟩ ?_
     refine Le (Eff.buildSlice (e := 5) (cells := #[.int .u8 ((((lb s.size) : Int) / ((2 ^ ((8 * ((7 : Int) - (k : Int)))).toNat : Nat) : Int)) % 256)]) (parts := #[(0,.int .u8 ((((lb s.size) : Int) / ((2 ^ ((8 * ((7 : Int) - (k : Int)))).toNat : Nat) : Int)) % 256))]) rfl kr (fun _ => kr)) ?_
     rintro bk4 ⟨hbk4,nbk4⟩
     refine Le (Eff.appendM rfl Tryz.underlying25 kr (z := .int .u8 0) kr rfl mo kmo kr (b2 := bk4) (off2 := 0) (c2 := 1) kr (.int .u8 ((((lb s.size) : Int) / ((2 ^ ((8 * ((7 : Int) - (k : Int)))).toNat : Nat) : Int)) % 256)) rfl [(bk4,.cells #[.int .u8 ((((lb s.size) : Int) / ((2 ^ ((8 * ((7 : Int) - (k : Int)))).toNat : Nat) : Int)) % 256)] 5 (0,0)),(rs,.cells (bv (List.replicate 32 0)) 35 (0,0))] [] rfl (fun w1 h => h.ocell 0 rfl rfl) om) ?_
     rintro mo3 kmo3
     refine Lp 1 [] (some [2,3,4,5]) n0 trivial ?_
     refine CfgL.done rfl ?_
     refine Rg [2,3,4,5] [] (fun _ => [((-9223372036854775808 : Int) ≤ (((7 : Int) - (k : Int)) - 1) ∧ (((7 : Int) - (k : Int)) - 1) ≤ 9223372036854775807)]) ⟨om,trivial⟩ ?_
     have hst := lc_step s (k := k) om rfl
     refine Cfg.setO (congrArg (fun (xq : List Value) => (([(bk4,.cells #[.int .u8 ((((lb s.size) : Int) / ((2 ^ ((8 * ((7 : Int) - (k : Int)))).toNat : Nat) : Int)) % 256)] 5 (0,0)),(rs,.cells (bv (List.replicate 32 0)) 35 (0,0))] ++ (MO.o 5 xq mo3 ++ [])) : List (Nat × Obj))) (show _ = ((bv (LC s (k + 1))).toList) from hst)) ?_
     refine Cg (Γ' := [(5,[],.int .i64 (((7 : Int) - (k : Int)) - 1)),(3,[],.slice (some ⟨mo3.b,0,none⟩) ((s.size + 1 + ((119 - s.size % 64) % 64) + k) + 1) mo3.cap),(4,[],.int .u64 ((lb s.size) : Int)),(2,[],.pointer (some ⟨rs,0,none⟩))]) ?_
     refine Cfg.setG (congrArg (fun (xq : Int) => ([(5,[],.int .i64 xq),(3,[],.slice (some ⟨mo3.b,0,none⟩) ((s.size + 1 + ((119 - s.size % 64) % 64) + k) + 1) mo3.cap),(4,[],.int .u64 ((lb s.size) : Int)),(2,[],.pointer (some ⟨rs,0,none⟩))] : Env)) (show _ = ((7 : Int) - ((k + 1 : Nat) : Int)) from by omega)) ?_
     refine Cfg.again rfl (k + 1,mo3) ⟨by omega,hst ▸ kmo3⟩ (by show 8 - (k + 1) < 8 - k; omega) (Conv.mk kr) (.cons _ (.cons_cons _ (List.Sublist.refl _)))
    ·have c2 := (of_decide_eq_false c2r)
     obtain rfl : k = 8 := by omega
     refine Conv.cfg (Γ' := [(3,[],.slice (some ⟨mo.b,0,none⟩) (s.size + 1 + ((119 - s.size % 64) % 64) + 8) mo.cap),(2,[],.pointer (some ⟨rs,0,none⟩))]) (Conv.mk kr) ?_
     obtain ⟨M,hM⟩ : ∃ x,x = (s.data.toList ++ un8 (tailN s.size)) := ⟨_,rfl⟩
     have hml : M.length = s.size + 1 + ((119 - s.size % 64) % 64) + 8 := by rw [hM]; exact mm_len s
     have hK64 : 64 * (M.length / 64) = M.length := by rw [hml]; omega
     refine Cfg.setO (congrArg (fun (xq : List Value) => (([(rs,.cells (bv (List.replicate 32 0)) 35 (0,0))] ++ (MO.o 5 xq mo ++ [])) : List (Nat × Obj))) (show _ = ((bv M).toList) from by rw [lc_end s om,hM])) ?_
     refine Cfg.begL rfl ?_
     refine Le (Eff.buildSlice (e := 102) (cells := #[.int .u32 1779033703,.int .u32 3144134277,.int .u32 1013904242,.int .u32 2773480762,.int .u32 1359893119,.int .u32 2600822924,.int .u32 528734635,.int .u32 1541459225]) (parts := #[(0,.int .u32 1779033703),(1,.int .u32 3144134277),(2,.int .u32 1013904242),(3,.int .u32 2773480762),(4,.int .u32 1359893119),(5,.int .u32 2600822924),(6,.int .u32 528734635),(7,.int .u32 1541459225)]) rfl kr (fun _ => kr)) ?_
     rintro hb ⟨hhb,nhb⟩
     refine Lp 1 [] (some [2,3,6]) n0 trivial ?_
     refine CfgL.done rfl ?_
     refine Cfg.begL rfl ?_
     refine Le (Eff.callN (vs := []) (fun b : Nat => .slice (some ⟨b,0,none⟩) 64 64) (fun b => b) (fun _ => .cells (wv Kc) 102 (0,0)) (fun _ => True) rfl Tryz.func43 rfl rfl kr (fun w1 _ => rK w1)) ?_
     rintro cb ⟨-,hcb,ncb⟩
     refine Lp 1 [] (some [2,3,6,7]) n0 trivial ?_
     refine CfgL.done rfl ?_
     refine Rg [2,3,6,7,8] [] n0 trivial ?_
     refine Cfg.setO (congrArg (fun (xq : Array Value) => (([(cb,.cells (wv Kc) 102 (0,0)),(hb,.cells xq 102 (0,0)),(rs,.cells (bv (List.replicate 32 0)) 35 (0,0))] ++ (MO.o 5 ((bv M).toList) mo ++ [])) : List (Nat × Obj))) (show _ = (wv (mixes 0 M H8)) from rfl)) ?_
     refine Cfg.loop rfl (ι := Nat) (fun (q : Nat) => [(8,[],.int .i64 (((64 * q) : Nat) : Int)),(7,[],.slice (some ⟨cb,0,none⟩) 64 64),(6,[],.slice (some ⟨hb,0,none⟩) 8 8),(3,[],.slice (some ⟨mo.b,0,none⟩) (s.size + 1 + ((119 - s.size % 64) % 64) + 8) mo.cap),(2,[],.pointer (some ⟨rs,0,none⟩))]) (fun (q : Nat) => ([(cb,.cells (wv Kc) 102 (0,0)),(hb,.cells (wv (mixes q M H8)) 102 (0,0)),(rs,.cells (bv (List.replicate 32 0)) 35 (0,0))] ++ (MO.o 5 ((bv M).toList) mo ++ []))) (fun (q : Nat) => (q ≤ M.length / 64)) (fun (q : Nat) => M.length / 64 - q) 0 ?_ (Conv.mk kr) (.cons_cons _ (.cons_cons _ (.cons_cons _ (List.Sublist.refl _)))) ?_
     ·exact Nat.zero_le _
     ·rintro q hq
      obtain ⟨hs,hhs⟩ : ∃ x,x = mixes q M H8 := ⟨_,rfl⟩
      obtain ⟨bl,hbl⟩ : ∃ x,x = ck M q := ⟨_,rfl⟩
      have hh : hs.length = 8 := hhs ▸ mixes_len _ _ rfl
      have hlt : ∀ i,rg hs i < 2 ^ 32 := hhs ▸ mixes_lt _ _ sh0_ok.hlt
      refine Cfg.setO (congrArg (fun (xq : Array Value) => (([(cb,.cells (wv Kc) 102 (0,0)),(hb,.cells xq 102 (0,0)),(rs,.cells (bv (List.replicate 32 0)) 35 (0,0))] ++ (MO.o 5 ((bv M).toList) mo ++ [])) : List (Nat × Obj))) (show _ = (wv hs) from by rw [hhs])) ?_
      refine Rg [2,3,6,7,8,58] [] n0 trivial ?_
      refine Cfg.cond rfl (b := (decide ((((64 * q) : Nat) : Int) < (((s.size + 1 + ((119 - s.size % 64) % 64) + 8) : Nat) : Int)))) kr (fun c3r => ?_) (fun c3r => ?_)
      ·have c3 := (of_decide_eq_true c3r)
       refine Cfg.begL rfl ?_
       refine Le (Eff.makeRow (e := 102) (n := 64) (cells := (wv (row bl 0))) (v1 := .int .i64 64) (v2 := .int .i64 64) rfl kr kr (fun _ => kr)) ?_
       rintro wb ⟨hwb,nwb⟩
       refine Lp 1 [] (some [2,3,6,7,8,9]) n0 trivial ?_
       refine CfgL.done rfl ?_
       refine Rg [2,3,6,7,8,9,10] [] n0 trivial ?_
       refine Cfg.loop rfl (ι := Nat) (fun (t : Nat) => [(10,[],.int .i64 (t : Int)),(9,[],.slice (some ⟨wb,0,none⟩) 64 64),(8,[],.int .i64 (((64 * q) : Nat) : Int)),(7,[],.slice (some ⟨cb,0,none⟩) 64 64),(6,[],.slice (some ⟨hb,0,none⟩) 8 8),(3,[],.slice (some ⟨mo.b,0,none⟩) (s.size + 1 + ((119 - s.size % 64) % 64) + 8) mo.cap),(2,[],.pointer (some ⟨rs,0,none⟩))]) (fun (t : Nat) => ([(wb,.cells (wv (row bl t)) 102 (0,0)),(cb,.cells (wv Kc) 102 (0,0)),(hb,.cells (wv hs) 102 (0,0)),(rs,.cells (bv (List.replicate 32 0)) 35 (0,0))] ++ (MO.o 5 ((bv M).toList) mo ++ []))) (fun (t : Nat) => (t ≤ 16)) (fun (t : Nat) => 16 - t) 0 ?_ (Conv.mk kr) (.cons_cons _ (.cons_cons _ (.cons_cons _ (.cons_cons _ (List.Sublist.refl _))))) ?_
       ·exact Nat.zero_le _
       ·rintro t ht
        refine Rg [2,3,6,7,8,9,10,63] [] n0 trivial ?_
        refine Cfg.cond rfl (b := (decide ((t : Int) < (16 : Int)))) kr (fun c4r => ?_) (fun c4r => ?_)
        ·have c4 := (of_decide_eq_true c4r)
         refine Cfg.begA rfl kr ([(cb,.cells (wv Kc) 102 (0,0)),(hb,.cells (wv hs) 102 (0,0)),(rs,.cells (bv (List.replicate 32 0)) 35 (0,0))] ++ (MO.o 5 ((bv M).toList) mo ++ [])) ?_
         refine CfgA.pure [0,1,2,3,4,5,6,7,8,9,10,11,12,13,14,15,16,17,18,19,20,21,22,23,24,25,26,27,28,29,30,31,32,33,34,35,36,37,38,39,40,41,42,43] [dZ,dZ,dZ,dZ,dZ,dZ,dZ,dZ,(0,false,some (.int .u8 ((bt4 bl (4 * t) : Nat) : Int))),dZ,dZ,dZ,dZ,dZ,dZ,dZ,dZ,dZ,(0,false,some (.int .u8 ((bt4 bl (4 * t + 1) : Nat) : Int))),dZ,dZ,dZ,dZ,dZ,dZ,dZ,dZ,dZ,dZ,(0,false,some (.int .u8 ((bt4 bl (4 * t + 2) : Nat) : Int))),dZ,dZ,dZ,dZ,dZ,dZ,dZ,dZ,dZ,dZ,(0,false,some (.int .u8 ((bt4 bl (4 * t + 3) : Nat) : Int)))] (some [2,3,6,7,8,9,10,108,109]) (l' := tF 44 1) kr kr (.cons _ (.cons_cons _ (.cons_cons _ (.cons_cons _ (List.Sublist.refl _))))) 1 rfl (Γ' := [(109,[],.pointer (some ⟨wb,t,none⟩)),(108,[],.int .u32 (((((((((((((bt4 bl (4 * t) : Nat) : Int) * 16777216) % 4294967296)).toNat ||| (((((bt4 bl (4 * t + 1) : Nat) : Int) * 65536) % 4294967296)).toNat : Nat) : Int)).toNat ||| (((((bt4 bl (4 * t + 2) : Nat) : Int) * 256) % 4294967296)).toNat : Nat) : Int)).toNat ||| (((bt4 bl (4 * t + 3) : Nat) : Int)).toNat : Nat) : Int)),(10,[],.int .i64 (t : Int)),(9,[],.slice (some ⟨wb,0,none⟩) 64 64),(8,[],.int .i64 (((64 * q) : Nat) : Int)),(7,[],.slice (some ⟨cb,0,none⟩) 64 64),(6,[],.slice (some ⟨hb,0,none⟩) 8 8),(3,[],.slice (some ⟨mo.b,0,none⟩) (s.size + 1 + ((119 - s.size % 64) % 64) + 8) mo.cap),(2,[],.pointer (some ⟨rs,0,none⟩))]) (nd := (fun S => [((-9223372036854775808 : Int) ≤ (4 * (t : Int)) ∧ (4 * (t : Int)) ≤ 9223372036854775807),((-9223372036854775808 : Int) ≤ ((((64 * q) : Nat) : Int) + (4 * (t : Int))) ∧ ((((64 * q) : Nat) : Int) + (4 * (t : Int))) ≤ 9223372036854775807),(0 ≤ ((((64 * q) : Nat) : Int) + (4 * (t : Int))) ∧ ((((64 * q) : Nat) : Int) + (4 * (t : Int))) < (((s.size + 1 + ((119 - s.size % 64) % 64) + 8) : Nat) : Int)),(∀ w1,S w1 → w1.cell? ⟨mo.b,(((64 * q)) + (4 * t)),none⟩ = some (.int .u8 ((bt4 bl (4 * t) : Nat) : Int))),((0 : Int) ≤ ((bt4 bl (4 * t) : Nat) : Int) ∧ ((bt4 bl (4 * t) : Nat) : Int) ≤ 4294967295),(0 ≤ (24 : Int) ∧ 24 ≤ 32),((-9223372036854775808 : Int) ≤ (4 * (t : Int)) ∧ (4 * (t : Int)) ≤ 9223372036854775807),((-9223372036854775808 : Int) ≤ ((((64 * q) : Nat) : Int) + (4 * (t : Int))) ∧ ((((64 * q) : Nat) : Int) + (4 * (t : Int))) ≤ 9223372036854775807),((-9223372036854775808 : Int) ≤ (((((64 * q) : Nat) : Int) + (4 * (t : Int))) + 1) ∧ (((((64 * q) : Nat) : Int) + (4 * (t : Int))) + 1) ≤ 9223372036854775807),(0 ≤ (((((64 * q) : Nat) : Int) + (4 * (t : Int))) + 1) ∧ (((((64 * q) : Nat) : Int) + (4 * (t : Int))) + 1) < (((s.size + 1 + ((119 - s.size % 64) % 64) + 8) : Nat) : Int)),(∀ w1,S w1 → w1.cell? ⟨mo.b,((((64 * q)) + (4 * t)) + 1),none⟩ = some (.int .u8 ((bt4 bl (4 * t + 1) : Nat) : Int))),((0 : Int) ≤ ((bt4 bl (4 * t + 1) : Nat) : Int) ∧ ((bt4 bl (4 * t + 1) : Nat) : Int) ≤ 4294967295),(0 ≤ (16 : Int) ∧ 16 ≤ 32),((0 ≤ ((((bt4 bl (4 * t) : Nat) : Int) * 16777216) % 4294967296) ∧ ((((bt4 bl (4 * t) : Nat) : Int) * 16777216) % 4294967296) ≤ 4294967295) ∧ 0 ≤ ((((bt4 bl (4 * t + 1) : Nat) : Int) * 65536) % 4294967296) ∧ ((((bt4 bl (4 * t + 1) : Nat) : Int) * 65536) % 4294967296) ≤ 4294967295),((-9223372036854775808 : Int) ≤ (4 * (t : Int)) ∧ (4 * (t : Int)) ≤ 9223372036854775807),((-9223372036854775808 : Int) ≤ ((((64 * q) : Nat) : Int) + (4 * (t : Int))) ∧ ((((64 * q) : Nat) : Int) + (4 * (t : Int))) ≤ 9223372036854775807),((-9223372036854775808 : Int) ≤ (((((64 * q) : Nat) : Int) + (4 * (t : Int))) + 2) ∧ (((((64 * q) : Nat) : Int) + (4 * (t : Int))) + 2) ≤ 9223372036854775807),(0 ≤ (((((64 * q) : Nat) : Int) + (4 * (t : Int))) + 2) ∧ (((((64 * q) : Nat) : Int) + (4 * (t : Int))) + 2) < (((s.size + 1 + ((119 - s.size % 64) % 64) + 8) : Nat) : Int)),(∀ w1,S w1 → w1.cell? ⟨mo.b,((((64 * q)) + (4 * t)) + 2),none⟩ = some (.int .u8 ((bt4 bl (4 * t + 2) : Nat) : Int))),((0 : Int) ≤ ((bt4 bl (4 * t + 2) : Nat) : Int) ∧ ((bt4 bl (4 * t + 2) : Nat) : Int) ≤ 4294967295),(0 ≤ (8 : Int) ∧ 8 ≤ 32),((0 ≤ (((((((bt4 bl (4 * t) : Nat) : Int) * 16777216) % 4294967296)).toNat ||| (((((bt4 bl (4 * t + 1) : Nat) : Int) * 65536) % 4294967296)).toNat : Nat) : Int) ∧ (((((((bt4 bl (4 * t) : Nat) : Int) * 16777216) % 4294967296)).toNat ||| (((((bt4 bl (4 * t + 1) : Nat) : Int) * 65536) % 4294967296)).toNat : Nat) : Int) ≤ 4294967295) ∧ 0 ≤ ((((bt4 bl (4 * t + 2) : Nat) : Int) * 256) % 4294967296) ∧ ((((bt4 bl (4 * t + 2) : Nat) : Int) * 256) % 4294967296) ≤ 4294967295),((-9223372036854775808 : Int) ≤ (4 * (t : Int)) ∧ (4 * (t : Int)) ≤ 9223372036854775807),((-9223372036854775808 : Int) ≤ ((((64 * q) : Nat) : Int) + (4 * (t : Int))) ∧ ((((64 * q) : Nat) : Int) + (4 * (t : Int))) ≤ 9223372036854775807),((-9223372036854775808 : Int) ≤ (((((64 * q) : Nat) : Int) + (4 * (t : Int))) + 3) ∧ (((((64 * q) : Nat) : Int) + (4 * (t : Int))) + 3) ≤ 9223372036854775807),(0 ≤ (((((64 * q) : Nat) : Int) + (4 * (t : Int))) + 3) ∧ (((((64 * q) : Nat) : Int) + (4 * (t : Int))) + 3) < (((s.size + 1 + ((119 - s.size % 64) % 64) + 8) : Nat) : Int)),(∀ w1,S w1 → w1.cell? ⟨mo.b,((((64 * q)) + (4 * t)) + 3),none⟩ = some (.int .u8 ((bt4 bl (4 * t + 3) : Nat) : Int))),((0 : Int) ≤ ((bt4 bl (4 * t + 3) : Nat) : Int) ∧ ((bt4 bl (4 * t + 3) : Nat) : Int) ≤ 4294967295),((0 ≤ ((((((((((bt4 bl (4 * t) : Nat) : Int) * 16777216) % 4294967296)).toNat ||| (((((bt4 bl (4 * t + 1) : Nat) : Int) * 65536) % 4294967296)).toNat : Nat) : Int)).toNat ||| (((((bt4 bl (4 * t + 2) : Nat) : Int) * 256) % 4294967296)).toNat : Nat) : Int) ∧ ((((((((((bt4 bl (4 * t) : Nat) : Int) * 16777216) % 4294967296)).toNat ||| (((((bt4 bl (4 * t + 1) : Nat) : Int) * 65536) % 4294967296)).toNat : Nat) : Int)).toNat ||| (((((bt4 bl (4 * t + 2) : Nat) : Int) * 256) % 4294967296)).toNat : Nat) : Int) ≤ 4294967295) ∧ 0 ≤ ((bt4 bl (4 * t + 3) : Nat) : Int) ∧ ((bt4 bl (4 * t + 3) : Nat) : Int) ≤ 4294967295),(0 ≤ (t : Int) ∧ (t : Int) < (64 : Int))])) (fun _ => kr) ⟨om,om,om,(fun w1 h => by rw [hbl]; exact mo_byte h (List.mem_append_right _ (List.mem_append_left _ (List.mem_singleton.2 rfl))) om om om),(by have := bt4_lt bl (4 * t); omega),om,om,om,om,om,(fun w1 h => by rw [hbl]; exact mo_byte h (List.mem_append_right _ (List.mem_append_left _ (List.mem_singleton.2 rfl))) om om om),(by have := bt4_lt bl (4 * t + 1); omega),om,(by have := bt4_lt bl (4 * t); have := bt4_lt bl (4 * t + 1); omega),om,om,om,om,(fun w1 h => by rw [hbl]; exact mo_byte h (List.mem_append_right _ (List.mem_append_left _ (List.mem_singleton.2 rfl))) om om om),(by have := bt4_lt bl (4 * t + 2); omega),om,⟨⟨Int.natCast_nonneg _,le_pow (b := 32) (Nat.or_lt_two_pow (tm_lt _) (tm_lt _))⟩,⟨by omega,by omega⟩⟩,om,om,om,om,(fun w1 h => by rw [hbl]; exact mo_byte h (List.mem_append_right _ (List.mem_append_left _ (List.mem_singleton.2 rfl))) om om om),(by have := bt4_lt bl (4 * t + 3); omega),⟨⟨Int.natCast_nonneg _,le_pow (b := 32) (Nat.or_lt_two_pow (tn_lt (Nat.or_lt_two_pow (tm_lt _) (tm_lt _))) (tm_lt _))⟩,⟨Int.natCast_nonneg _,le_pow (b := 32) (b84 _ _)⟩⟩,om,trivial⟩ ?_
         refine Ae 44 rfl 0  (Eff.store1 (b := wb) (off := t) (v := .int .u32 (((((((((((((bt4 bl (4 * t) : Nat) : Int) * 16777216) % 4294967296)).toNat ||| (((((bt4 bl (4 * t + 1) : Nat) : Int) * 65536) % 4294967296)).toNat : Nat) : Int)).toNat ||| (((((bt4 bl (4 * t + 2) : Nat) : Int) * 256) % 4294967296)).toNat : Nat) : Int)).toNat ||| (((bt4 bl (4 * t + 3) : Nat) : Int)).toNat : Nat) : Int)) rfl kr kr rfl kr 0 (cs := (wv (row bl t))) (e := 102) kr (by rw [wsize]; omega)) (fun _ _ => (.cons _ (.cons_cons _ (.cons_cons _ (.cons_cons _ (List.Sublist.refl _)))))) ?_
         rintro ⟨⟩ -
         refine CfgA.done kr ?_
         refine Cg (Γ' := [(10,[],.int .i64 (t : Int)),(9,[],.slice (some ⟨wb,0,none⟩) 64 64),(8,[],.int .i64 (((64 * q) : Nat) : Int)),(7,[],.slice (some ⟨cb,0,none⟩) 64 64),(6,[],.slice (some ⟨hb,0,none⟩) 8 8),(3,[],.slice (some ⟨mo.b,0,none⟩) (s.size + 1 + ((119 - s.size % 64) % 64) + 8) mo.cap),(2,[],.pointer (some ⟨rs,0,none⟩))]) ?_
         refine Rg [2,3,6,7,8,9,10] [] (fun _ => [((-9223372036854775808 : Int) ≤ ((t : Int) + 1) ∧ ((t : Int) + 1) ≤ 9223372036854775807)]) ⟨om,trivial⟩ ?_
         refine Cfg.setO (congrArg (fun (xq : Array Value) => (([(wb,.cells xq 102 (0,0)),(cb,.cells (wv Kc) 102 (0,0)),(hb,.cells (wv hs) 102 (0,0)),(rs,.cells (bv (List.replicate 32 0)) 35 (0,0))] ++ (MO.o 5 ((bv M).toList) mo ++ [])) : List (Nat × Obj))) (show _ = (wv (row bl (t + 1))) from row_step bl t (wnext_lo om (be4_eq _ _ _ _)))) ?_
         refine Cfg.again rfl (t + 1) (by show t + 1 ≤ 16; omega) (by show 16 - (t + 1) < 16 - t; omega) (Conv.mk kr) (.cons_cons _ (.cons_cons _ (.cons_cons _ (.cons_cons _ (List.Sublist.refl _)))))
        ·have c4 := (of_decide_eq_false c4r)
         obtain rfl : t = 16 := by omega
         refine Conv.cfg (Γ' := [(9,[],.slice (some ⟨wb,0,none⟩) 64 64),(8,[],.int .i64 (((64 * q) : Nat) : Int)),(7,[],.slice (some ⟨cb,0,none⟩) 64 64),(6,[],.slice (some ⟨hb,0,none⟩) 8 8),(3,[],.slice (some ⟨mo.b,0,none⟩) (s.size + 1 + ((119 - s.size % 64) % 64) + 8) mo.cap),(2,[],.pointer (some ⟨rs,0,none⟩))]) (Conv.mk kr) ?_
         refine Rg [2,3,6,7,8,9,11] [] n0 trivial ?_
         refine Cfg.loop rfl (ι := Nat) (fun (t : Nat) => [(11,[],.int .i64 (t : Int)),(9,[],.slice (some ⟨wb,0,none⟩) 64 64),(8,[],.int .i64 (((64 * q) : Nat) : Int)),(7,[],.slice (some ⟨cb,0,none⟩) 64 64),(6,[],.slice (some ⟨hb,0,none⟩) 8 8),(3,[],.slice (some ⟨mo.b,0,none⟩) (s.size + 1 + ((119 - s.size % 64) % 64) + 8) mo.cap),(2,[],.pointer (some ⟨rs,0,none⟩))]) (fun (t : Nat) => ([(wb,.cells (wv (row bl t)) 102 (0,0)),(cb,.cells (wv Kc) 102 (0,0)),(hb,.cells (wv hs) 102 (0,0)),(rs,.cells (bv (List.replicate 32 0)) 35 (0,0))] ++ (MO.o 5 ((bv M).toList) mo ++ []))) (fun (t : Nat) => (16 ≤ t) ∧ (t ≤ 64)) (fun (t : Nat) => 64 - t) 16 ?_ (Conv.mk kr) (.cons_cons _ (.cons_cons _ (.cons_cons _ (.cons_cons _ (List.Sublist.refl _))))) ?_
         ·exact ⟨Nat.le_refl _,by decide⟩
         ·rintro t ⟨ht0,ht⟩
          refine Rg [2,3,6,7,8,9,11,111] [] n0 trivial ?_
          refine Cfg.cond rfl (b := (decide ((t : Int) < (64 : Int)))) kr (fun c5r => ?_) (fun c5r => ?_)
          ·have c5 := (of_decide_eq_true c5r)
           refine Cfg.begA rfl kr ([(wb,.cells (wv (row bl t)) 102 (0,0)),(cb,.cells (wv Kc) 102 (0,0)),(hb,.cells (wv hs) 102 (0,0)),(rs,.cells (bv (List.replicate 32 0)) 35 (0,0))] ++ (MO.o 5 ((bv M).toList) mo ++ [])) ?_
           refine Ap [0,1,2,3,4,6,7,8,9,10,13,14,15,16,17,18] [dZ,dZ,dZ,dZ,(0,false,some (.int .u32 ((rg (row bl t) (t - 15) : Nat) : Int))),dZ,dZ,dZ,dZ,(0,false,some (.int .u32 ((rg (row bl t) (t - 15) : Nat) : Int))),dZ,dZ,dZ,dZ,(0,false,some (.int .u32 ((rg (row bl t) (t - 15) : Nat) : Int)))] (some [2,3,6,7,8,9,11,118,124,132]) #[true,true,true,true,true,false,true,true,true,true,true,false,false,true,true,true,true,true,true,false,false] (.cons_cons _ (.cons_cons _ (.cons_cons _ (.cons_cons _ (List.Sublist.refl _))))) 5 (fun S => [((-9223372036854775808 : Int) ≤ ((t : Int) - 15) ∧ ((t : Int) - 15) ≤ 9223372036854775807),(0 ≤ ((t : Int) - 15) ∧ ((t : Int) - 15) < (64 : Int)),(∀ w1,S w1 → w1.cell? ⟨wb,(((t : Int) - 15)).toNat,none⟩ = some (.int .u32 ((rg (row bl t) (t - 15) : Nat) : Int))),((-9223372036854775808 : Int) ≤ ((t : Int) - 15) ∧ ((t : Int) - 15) ≤ 9223372036854775807),(0 ≤ ((t : Int) - 15) ∧ ((t : Int) - 15) < (64 : Int)),(∀ w1,S w1 → w1.cell? ⟨wb,(((t : Int) - 15)).toNat,none⟩ = some (.int .u32 ((rg (row bl t) (t - 15) : Nat) : Int))),((-9223372036854775808 : Int) ≤ ((t : Int) - 15) ∧ ((t : Int) - 15) ≤ 9223372036854775807),(0 ≤ ((t : Int) - 15) ∧ ((t : Int) - 15) < (64 : Int)),(∀ w1,S w1 → w1.cell? ⟨wb,(((t : Int) - 15)).toNat,none⟩ = some (.int .u32 ((rg (row bl t) (t - 15) : Nat) : Int))),(0 ≤ (3 : Int) ∧ 3 ≤ 32)]) ⟨om,om,(fun w1 h => h.ocell 0 rfl (by rw [show (((t : Int) - 15)).toNat = (t - 15) by omega]; exact wv_get (row_len _ t) om)),om,om,(fun w1 h => h.ocell 0 rfl (by rw [show (((t : Int) - 15)).toNat = (t - 15) by omega]; exact wv_get (row_len _ t) om)),om,om,(fun w1 h => h.ocell 0 rfl (by rw [show (((t : Int) - 15)).toNat = (t - 15) by omega]; exact wv_get (row_len _ t) om)),om,trivial⟩ ?_
           refine Ae 5 rfl 4  (Eff.callA (vs := [.int .u32 ((rg (row bl t) (t - 15) : Nat) : Int),.int .i64 7]) (.int .u32 ((rotl (rg (row bl t) (t - 15)) 33554432 128 : Nat) : Int)) rfl Tryz.func44 rfl rfl kr (fun w1 _ => rRotr7 _ w1 (row_lt _ t _))) (fun _ _ => (.cons_cons _ (.cons_cons _ (.cons_cons _ (.cons_cons _ (List.Sublist.refl _)))))) ?_
           rintro ⟨⟩ -
           refine Ae 11 rfl 3  (Eff.callA (vs := [.int .u32 ((rg (row bl t) (t - 15) : Nat) : Int),.int .i64 18]) (.int .u32 ((rotl (rg (row bl t) (t - 15)) 16384 262144 : Nat) : Int)) rfl Tryz.func44 rfl rfl kr (fun w1 _ => rRotr18 _ w1 (row_lt _ t _))) (fun _ _ => (.cons_cons _ (.cons_cons _ (.cons_cons _ (.cons_cons _ (List.Sublist.refl _)))))) ?_
           rintro ⟨⟩ -
           refine Ap [12,19,20] [] (some [2,3,6,7,8,9,11,12]) #[true,true,true,true,true,true,true,true,true,true,true,true,true,true,true,true,true,true,true,true,true] (.cons_cons _ (.cons_cons _ (.cons_cons _ (.cons_cons _ (List.Sublist.refl _))))) 0 (fun _ => [((0 ≤ ((rotl (rg (row bl t) (t - 15)) 33554432 128 : Nat) : Int) ∧ ((rotl (rg (row bl t) (t - 15)) 33554432 128 : Nat) : Int) ≤ 4294967295) ∧ 0 ≤ ((rotl (rg (row bl t) (t - 15)) 16384 262144 : Nat) : Int) ∧ ((rotl (rg (row bl t) (t - 15)) 16384 262144 : Nat) : Int) ≤ 4294967295),((0 ≤ (((((rotl (rg (row bl t) (t - 15)) 33554432 128 : Nat) : Int)).toNat ^^^ (((rotl (rg (row bl t) (t - 15)) 16384 262144 : Nat) : Int)).toNat : Nat) : Int) ∧ (((((rotl (rg (row bl t) (t - 15)) 33554432 128 : Nat) : Int)).toNat ^^^ (((rotl (rg (row bl t) (t - 15)) 16384 262144 : Nat) : Int)).toNat : Nat) : Int) ≤ 4294967295) ∧ 0 ≤ (((rg (row bl t) (t - 15) : Nat) : Int) / 8) ∧ (((rg (row bl t) (t - 15) : Nat) : Int) / 8) ≤ 4294967295)]) ⟨⟨⟨Int.natCast_nonneg _,le_pow (b := 32) (rotl_lt (row_lt _ t _))⟩,⟨Int.natCast_nonneg _,le_pow (b := 32) (rotl_lt (row_lt _ t _))⟩⟩,⟨⟨Int.natCast_nonneg _,le_pow (b := 32) (Nat.xor_lt_two_pow (tn_lt (rotl_lt (row_lt _ t _))) (tn_lt (rotl_lt (row_lt _ t _))))⟩,⟨Int.natCast_nonneg _,le_pow (b := 32) (Nat.lt_of_le_of_lt (Nat.div_le_self _ _) (row_lt _ t _))⟩⟩,trivial⟩ ?_
           refine CfgA.done kr ?_
           refine Cg (Γ' := [(12,[],.int .u32 ((((((((rotl (rg (row bl t) (t - 15)) 33554432 128 : Nat) : Int)).toNat ^^^ (((rotl (rg (row bl t) (t - 15)) 16384 262144 : Nat) : Int)).toNat : Nat) : Int)).toNat ^^^ ((((rg (row bl t) (t - 15) : Nat) : Int) / 8)).toNat : Nat) : Int)),(11,[],.int .i64 (t : Int)),(9,[],.slice (some ⟨wb,0,none⟩) 64 64),(8,[],.int .i64 (((64 * q) : Nat) : Int)),(7,[],.slice (some ⟨cb,0,none⟩) 64 64),(6,[],.slice (some ⟨hb,0,none⟩) 8 8),(3,[],.slice (some ⟨mo.b,0,none⟩) (s.size + 1 + ((119 - s.size % 64) % 64) + 8) mo.cap),(2,[],.pointer (some ⟨rs,0,none⟩))]) ?_
           refine Cfg.setG (congrArg (fun (xq : Int) => ([(12,[],.int .u32 xq),(11,[],.int .i64 (t : Int)),(9,[],.slice (some ⟨wb,0,none⟩) 64 64),(8,[],.int .i64 (((64 * q) : Nat) : Int)),(7,[],.slice (some ⟨cb,0,none⟩) 64 64),(6,[],.slice (some ⟨hb,0,none⟩) 8 8),(3,[],.slice (some ⟨mo.b,0,none⟩) (s.size + 1 + ((119 - s.size % 64) % 64) + 8) mo.cap),(2,[],.pointer (some ⟨rs,0,none⟩))] : Env)) (show _ = ((wlow (rg (row bl t) (t - 15)) : Nat) : Int) from (congrArg (fun n : Nat => (n : Int)) (x3 _ _ _ _ (d3 _))))) ?_
           refine Cfg.begA rfl kr ([(wb,.cells (wv (row bl t)) 102 (0,0)),(cb,.cells (wv Kc) 102 (0,0)),(hb,.cells (wv hs) 102 (0,0)),(rs,.cells (bv (List.replicate 32 0)) 35 (0,0))] ++ (MO.o 5 ((bv M).toList) mo ++ [])) ?_
           refine Ap [0,1,2,3,4,6,7,8,9,10,13,14,15,16,17,18] [dZ,dZ,dZ,dZ,(0,false,some (.int .u32 ((rg (row bl t) (t - 2) : Nat) : Int))),dZ,dZ,dZ,dZ,(0,false,some (.int .u32 ((rg (row bl t) (t - 2) : Nat) : Int))),dZ,dZ,dZ,dZ,(0,false,some (.int .u32 ((rg (row bl t) (t - 2) : Nat) : Int)))] (some [2,3,6,7,8,9,11,12,138,144,152]) #[true,true,true,true,true,false,true,true,true,true,true,false,false,true,true,true,true,true,true,false,false] (.cons_cons _ (.cons_cons _ (.cons_cons _ (.cons_cons _ (List.Sublist.refl _))))) 5 (fun S => [((-9223372036854775808 : Int) ≤ ((t : Int) - 2) ∧ ((t : Int) - 2) ≤ 9223372036854775807),(0 ≤ ((t : Int) - 2) ∧ ((t : Int) - 2) < (64 : Int)),(∀ w1,S w1 → w1.cell? ⟨wb,(((t : Int) - 2)).toNat,none⟩ = some (.int .u32 ((rg (row bl t) (t - 2) : Nat) : Int))),((-9223372036854775808 : Int) ≤ ((t : Int) - 2) ∧ ((t : Int) - 2) ≤ 9223372036854775807),(0 ≤ ((t : Int) - 2) ∧ ((t : Int) - 2) < (64 : Int)),(∀ w1,S w1 → w1.cell? ⟨wb,(((t : Int) - 2)).toNat,none⟩ = some (.int .u32 ((rg (row bl t) (t - 2) : Nat) : Int))),((-9223372036854775808 : Int) ≤ ((t : Int) - 2) ∧ ((t : Int) - 2) ≤ 9223372036854775807),(0 ≤ ((t : Int) - 2) ∧ ((t : Int) - 2) < (64 : Int)),(∀ w1,S w1 → w1.cell? ⟨wb,(((t : Int) - 2)).toNat,none⟩ = some (.int .u32 ((rg (row bl t) (t - 2) : Nat) : Int))),(0 ≤ (10 : Int) ∧ 10 ≤ 32)]) ⟨om,om,(fun w1 h => h.ocell 0 rfl (by rw [show (((t : Int) - 2)).toNat = (t - 2) by omega]; exact wv_get (row_len _ t) om)),om,om,(fun w1 h => h.ocell 0 rfl (by rw [show (((t : Int) - 2)).toNat = (t - 2) by omega]; exact wv_get (row_len _ t) om)),om,om,(fun w1 h => h.ocell 0 rfl (by rw [show (((t : Int) - 2)).toNat = (t - 2) by omega]; exact wv_get (row_len _ t) om)),om,trivial⟩ ?_
           refine Ae 5 rfl 4  (Eff.callA (vs := [.int .u32 ((rg (row bl t) (t - 2) : Nat) : Int),.int .i64 17]) (.int .u32 ((rotl (rg (row bl t) (t - 2)) 32768 131072 : Nat) : Int)) rfl Tryz.func44 rfl rfl kr (fun w1 _ => rRotr17 _ w1 (row_lt _ t _))) (fun _ _ => (.cons_cons _ (.cons_cons _ (.cons_cons _ (.cons_cons _ (List.Sublist.refl _)))))) ?_
           rintro ⟨⟩ -
           refine Ae 11 rfl 3  (Eff.callA (vs := [.int .u32 ((rg (row bl t) (t - 2) : Nat) : Int),.int .i64 19]) (.int .u32 ((rotl (rg (row bl t) (t - 2)) 8192 524288 : Nat) : Int)) rfl Tryz.func44 rfl rfl kr (fun w1 _ => rRotr19 _ w1 (row_lt _ t _))) (fun _ _ => (.cons_cons _ (.cons_cons _ (.cons_cons _ (.cons_cons _ (List.Sublist.refl _)))))) ?_
           rintro ⟨⟩ -
           refine Ap [12,19,20] [] (some [2,3,6,7,8,9,11,12,13]) #[true,true,true,true,true,true,true,true,true,true,true,true,true,true,true,true,true,true,true,true,true] (.cons_cons _ (.cons_cons _ (.cons_cons _ (.cons_cons _ (List.Sublist.refl _))))) 0 (fun _ => [((0 ≤ ((rotl (rg (row bl t) (t - 2)) 32768 131072 : Nat) : Int) ∧ ((rotl (rg (row bl t) (t - 2)) 32768 131072 : Nat) : Int) ≤ 4294967295) ∧ 0 ≤ ((rotl (rg (row bl t) (t - 2)) 8192 524288 : Nat) : Int) ∧ ((rotl (rg (row bl t) (t - 2)) 8192 524288 : Nat) : Int) ≤ 4294967295),((0 ≤ (((((rotl (rg (row bl t) (t - 2)) 32768 131072 : Nat) : Int)).toNat ^^^ (((rotl (rg (row bl t) (t - 2)) 8192 524288 : Nat) : Int)).toNat : Nat) : Int) ∧ (((((rotl (rg (row bl t) (t - 2)) 32768 131072 : Nat) : Int)).toNat ^^^ (((rotl (rg (row bl t) (t - 2)) 8192 524288 : Nat) : Int)).toNat : Nat) : Int) ≤ 4294967295) ∧ 0 ≤ (((rg (row bl t) (t - 2) : Nat) : Int) / 1024) ∧ (((rg (row bl t) (t - 2) : Nat) : Int) / 1024) ≤ 4294967295)]) ⟨⟨⟨Int.natCast_nonneg _,le_pow (b := 32) (rotl_lt (row_lt _ t _))⟩,⟨Int.natCast_nonneg _,le_pow (b := 32) (rotl_lt (row_lt _ t _))⟩⟩,⟨⟨Int.natCast_nonneg _,le_pow (b := 32) (Nat.xor_lt_two_pow (tn_lt (rotl_lt (row_lt _ t _))) (tn_lt (rotl_lt (row_lt _ t _))))⟩,⟨Int.natCast_nonneg _,le_pow (b := 32) (Nat.lt_of_le_of_lt (Nat.div_le_self _ _) (row_lt _ t _))⟩⟩,trivial⟩ ?_
           refine CfgA.done kr ?_
           refine Cg (Γ' := [(13,[],.int .u32 ((((((((rotl (rg (row bl t) (t - 2)) 32768 131072 : Nat) : Int)).toNat ^^^ (((rotl (rg (row bl t) (t - 2)) 8192 524288 : Nat) : Int)).toNat : Nat) : Int)).toNat ^^^ ((((rg (row bl t) (t - 2) : Nat) : Int) / 1024)).toNat : Nat) : Int)),(12,[],.int .u32 ((wlow (rg (row bl t) (t - 15)) : Nat) : Int)),(11,[],.int .i64 (t : Int)),(9,[],.slice (some ⟨wb,0,none⟩) 64 64),(8,[],.int .i64 (((64 * q) : Nat) : Int)),(7,[],.slice (some ⟨cb,0,none⟩) 64 64),(6,[],.slice (some ⟨hb,0,none⟩) 8 8),(3,[],.slice (some ⟨mo.b,0,none⟩) (s.size + 1 + ((119 - s.size % 64) % 64) + 8) mo.cap),(2,[],.pointer (some ⟨rs,0,none⟩))]) ?_
           refine Cfg.setG (congrArg (fun (xq : Int) => ([(13,[],.int .u32 xq),(12,[],.int .u32 ((wlow (rg (row bl t) (t - 15)) : Nat) : Int)),(11,[],.int .i64 (t : Int)),(9,[],.slice (some ⟨wb,0,none⟩) 64 64),(8,[],.int .i64 (((64 * q) : Nat) : Int)),(7,[],.slice (some ⟨cb,0,none⟩) 64 64),(6,[],.slice (some ⟨hb,0,none⟩) 8 8),(3,[],.slice (some ⟨mo.b,0,none⟩) (s.size + 1 + ((119 - s.size % 64) % 64) + 8) mo.cap),(2,[],.pointer (some ⟨rs,0,none⟩))] : Env)) (show _ = ((whigh (rg (row bl t) (t - 2)) : Nat) : Int) from (congrArg (fun n : Nat => (n : Int)) (x3 _ _ _ _ (d10 _))))) ?_
           refine Cfg.begA rfl kr ([(cb,.cells (wv Kc) 102 (0,0)),(hb,.cells (wv hs) 102 (0,0)),(rs,.cells (bv (List.replicate 32 0)) 35 (0,0))] ++ (MO.o 5 ((bv M).toList) mo ++ [])) ?_
           refine Ap [0,1,2,3,4,5,7,9,10,11,12,15] [] (some [2,3,6,7,8,9,11,154,155,159,161,166,169]) #[true,true,true,true,true,true,false,true,false,true,true,true,true,false,false,true,false,false,false] (.cons _ (.cons_cons _ (.cons_cons _ (.cons_cons _ (List.Sublist.refl _))))) 7 (fun _ => [((-9223372036854775808 : Int) ≤ ((t : Int) - 16) ∧ ((t : Int) - 16) ≤ 9223372036854775807),(0 ≤ ((t : Int) - 16) ∧ ((t : Int) - 16) < (64 : Int)),((-9223372036854775808 : Int) ≤ ((t : Int) - 7) ∧ ((t : Int) - 7) ≤ 9223372036854775807),(0 ≤ ((t : Int) - 7) ∧ ((t : Int) - 7) < (64 : Int))]) ⟨om,om,om,om,trivial⟩ ?_
           refine CfgA.two 6 13 kr (fuel' := 6) rfl ?_ ?_
           ·
            refine Ie rfl  (Eff.quiet (raw := false) (orc := some (.int .u32 ((rg (row bl t) (t - 16) : Nat) : Int))) (v := .int .u32 ((rg (row bl t) (t - 16) : Nat) : Int)) (nd := (fun S => [(∀ w1,S w1 → w1.cell? ⟨wb,(((t : Int) - 16)).toNat,none⟩ = some (.int .u32 ((rg (row bl t) (t - 16) : Nat) : Int)))])) (fun _ => kr) ⟨(fun w1 h => h.ocell 0 rfl (by rw [show (((t : Int) - 16)).toNat = (t - 16) by omega]; exact wv_get (row_len _ t) om)),trivial⟩ kr) (fun _ _ => (.cons _ (.cons_cons _ (.cons_cons _ (.cons_cons _ (List.Sublist.refl _)))))) ?_
            rintro ⟨⟩ -
            refine Ap [8] [] (some [2,3,6,7,8,9,11,154,155,162,166,169]) #[true,true,true,true,true,true,true,true,true,true,true,true,true,false,false,true,false,false,false] (.cons _ (.cons_cons _ (.cons_cons _ (.cons_cons _ (List.Sublist.refl _))))) 5 n0 trivial ?_
            refine Ae 13 rfl 4  (Eff.quiet (raw := false) (orc := some (.int .u32 ((rg (row bl t) (t - 7) : Nat) : Int))) (v := .int .u32 ((rg (row bl t) (t - 7) : Nat) : Int)) (nd := (fun S => [(∀ w1,S w1 → w1.cell? ⟨wb,(((t : Int) - 7)).toNat,none⟩ = some (.int .u32 ((rg (row bl t) (t - 7) : Nat) : Int)))])) (fun _ => kr) ⟨(fun w1 h => h.ocell 0 rfl (by rw [show (((t : Int) - 7)).toNat = (t - 7) by omega]; exact wv_get (row_len _ t) om)),trivial⟩ kr) (fun _ _ => (.cons _ (.cons_cons _ (.cons_cons _ (.cons_cons _ (List.Sublist.refl _)))))) ?_
            rintro ⟨⟩ -
            refine Ap [14,16,17] [] (some [2,3,6,7,8,9,11,170,171]) #[true,true,true,true,true,true,true,true,true,true,true,true,true,true,true,true,true,true,false] (.cons _ (.cons_cons _ (.cons_cons _ (.cons_cons _ (List.Sublist.refl _))))) 1 (fun _ => [(0 ≤ (t : Int) ∧ (t : Int) < (64 : Int))]) ⟨om,trivial⟩ ?_
            refine Ae 18 rfl 0  (Eff.store1 (b := wb) (off := t) (v := .int .u32 ((((((((rg (row bl t) (t - 16) : Nat) : Int) + ((wlow (rg (row bl t) (t - 15)) : Nat) : Int)) % 4294967296) + ((rg (row bl t) (t - 7) : Nat) : Int)) % 4294967296) + ((whigh (rg (row bl t) (t - 2)) : Nat) : Int)) % 4294967296)) rfl kr kr rfl kr 0 (cs := (wv (row bl t))) (e := 102) kr (by rw [wsize]; omega)) (fun _ _ => (.cons _ (.cons_cons _ (.cons_cons _ (.cons_cons _ (List.Sublist.refl _)))))) ?_
            rintro ⟨⟩ -
            refine CfgA.done kr ?_
            refine Cg (Γ' := [(11,[],.int .i64 (t : Int)),(9,[],.slice (some ⟨wb,0,none⟩) 64 64),(8,[],.int .i64 (((64 * q) : Nat) : Int)),(7,[],.slice (some ⟨cb,0,none⟩) 64 64),(6,[],.slice (some ⟨hb,0,none⟩) 8 8),(3,[],.slice (some ⟨mo.b,0,none⟩) (s.size + 1 + ((119 - s.size % 64) % 64) + 8) mo.cap),(2,[],.pointer (some ⟨rs,0,none⟩))]) ?_
            refine Rg [2,3,6,7,8,9,11] [] (fun _ => [((-9223372036854775808 : Int) ≤ ((t : Int) + 1) ∧ ((t : Int) + 1) ≤ 9223372036854775807)]) ⟨om,trivial⟩ ?_
            refine Cfg.setO (congrArg (fun (xq : Array Value) => (([(wb,.cells xq 102 (0,0)),(cb,.cells (wv Kc) 102 (0,0)),(hb,.cells (wv hs) 102 (0,0)),(rs,.cells (bv (List.replicate 32 0)) 35 (0,0))] ++ (MO.o 5 ((bv M).toList) mo ++ [])) : List (Nat × Obj))) (show _ = (wv (row bl (t + 1))) from row_step bl t (wnext_hi om (wn_eq2 _ _ _ _)))) ?_
            refine Cfg.again rfl (t + 1) ⟨by omega,by omega⟩ (by show 64 - (t + 1) < 64 - t; omega) (Conv.mk kr) (.cons_cons _ (.cons_cons _ (.cons_cons _ (.cons_cons _ (List.Sublist.refl _)))))
           ·
            refine Ie rfl  (Eff.quiet (raw := false) (orc := some (.int .u32 ((rg (row bl t) (t - 7) : Nat) : Int))) (v := .int .u32 ((rg (row bl t) (t - 7) : Nat) : Int)) (nd := (fun S => [(∀ w1,S w1 → w1.cell? ⟨wb,(((t : Int) - 7)).toNat,none⟩ = some (.int .u32 ((rg (row bl t) (t - 7) : Nat) : Int)))])) (fun _ => kr) ⟨(fun w1 h => h.ocell 0 rfl (by rw [show (((t : Int) - 7)).toNat = (t - 7) by omega]; exact wv_get (row_len _ t) om)),trivial⟩ kr) (fun _ _ => (.cons _ (.cons_cons _ (.cons_cons _ (.cons_cons _ (List.Sublist.refl _)))))) ?_
            rintro ⟨⟩ -
            refine Ae 6 rfl 5  (Eff.quiet (raw := false) (orc := some (.int .u32 ((rg (row bl t) (t - 16) : Nat) : Int))) (v := .int .u32 ((rg (row bl t) (t - 16) : Nat) : Int)) (nd := (fun S => [(∀ w1,S w1 → w1.cell? ⟨wb,(((t : Int) - 16)).toNat,none⟩ = some (.int .u32 ((rg (row bl t) (t - 16) : Nat) : Int)))])) (fun _ => kr) ⟨(fun w1 h => h.ocell 0 rfl (by rw [show (((t : Int) - 16)).toNat = (t - 16) by omega]; exact wv_get (row_len _ t) om)),trivial⟩ kr) (fun _ _ => (.cons _ (.cons_cons _ (.cons_cons _ (.cons_cons _ (List.Sublist.refl _)))))) ?_
            rintro ⟨⟩ -
            refine Ap [8,14,16,17] [] (some [2,3,6,7,8,9,11,170,171]) #[true,true,true,true,true,true,true,true,true,true,true,true,true,true,true,true,true,true,false] (.cons _ (.cons_cons _ (.cons_cons _ (.cons_cons _ (List.Sublist.refl _))))) 1 (fun _ => [(0 ≤ (t : Int) ∧ (t : Int) < (64 : Int))]) ⟨om,trivial⟩ ?_
            refine Ae 18 rfl 0  (Eff.store1 (b := wb) (off := t) (v := .int .u32 ((((((((rg (row bl t) (t - 16) : Nat) : Int) + ((wlow (rg (row bl t) (t - 15)) : Nat) : Int)) % 4294967296) + ((rg (row bl t) (t - 7) : Nat) : Int)) % 4294967296) + ((whigh (rg (row bl t) (t - 2)) : Nat) : Int)) % 4294967296)) rfl kr kr rfl kr 0 (cs := (wv (row bl t))) (e := 102) kr (by rw [wsize]; omega)) (fun _ _ => (.cons _ (.cons_cons _ (.cons_cons _ (.cons_cons _ (List.Sublist.refl _)))))) ?_
            rintro ⟨⟩ -
            refine CfgA.done kr ?_
            refine Cg (Γ' := [(11,[],.int .i64 (t : Int)),(9,[],.slice (some ⟨wb,0,none⟩) 64 64),(8,[],.int .i64 (((64 * q) : Nat) : Int)),(7,[],.slice (some ⟨cb,0,none⟩) 64 64),(6,[],.slice (some ⟨hb,0,none⟩) 8 8),(3,[],.slice (some ⟨mo.b,0,none⟩) (s.size + 1 + ((119 - s.size % 64) % 64) + 8) mo.cap),(2,[],.pointer (some ⟨rs,0,none⟩))]) ?_
            refine Rg [2,3,6,7,8,9,11] [] (fun _ => [((-9223372036854775808 : Int) ≤ ((t : Int) + 1) ∧ ((t : Int) + 1) ≤ 9223372036854775807)]) ⟨om,trivial⟩ ?_
            refine Cfg.setO (congrArg (fun (xq : Array Value) => (([(wb,.cells xq 102 (0,0)),(cb,.cells (wv Kc) 102 (0,0)),(hb,.cells (wv hs) 102 (0,0)),(rs,.cells (bv (List.replicate 32 0)) 35 (0,0))] ++ (MO.o 5 ((bv M).toList) mo ++ [])) : List (Nat × Obj))) (show _ = (wv (row bl (t + 1))) from row_step bl t (wnext_hi om (wn_eq2 _ _ _ _)))) ?_
            refine Cfg.again rfl (t + 1) ⟨by omega,by omega⟩ (by show 64 - (t + 1) < 64 - t; omega) (Conv.mk kr) (.cons_cons _ (.cons_cons _ (.cons_cons _ (.cons_cons _ (List.Sublist.refl _)))))
          ·have c5 := (of_decide_eq_false c5r)
           obtain rfl : t = 64 := by omega
           refine Conv.cfg (Γ' := [(9,[],.slice (some ⟨wb,0,none⟩) 64 64),(8,[],.int .i64 (((64 * q) : Nat) : Int)),(7,[],.slice (some ⟨cb,0,none⟩) 64 64),(6,[],.slice (some ⟨hb,0,none⟩) 8 8),(3,[],.slice (some ⟨mo.b,0,none⟩) (s.size + 1 + ((119 - s.size % 64) % 64) + 8) mo.cap),(2,[],.pointer (some ⟨rs,0,none⟩))]) (Conv.mk kr) ?_
           refine Cfg.begA rfl kr ([(wb,.cells (wv (row bl 64)) 102 (0,0)),(cb,.cells (wv Kc) 102 (0,0)),(hb,.cells (wv hs) 102 (0,0)),(rs,.cells (bv (List.replicate 32 0)) 35 (0,0))] ++ (MO.o 5 ((bv M).toList) mo ++ [])) ?_
           refine Ap [0,1,2,3,4,5,6,7,8,9,10,11,12,13,14,15,16,17,18,19,20,21,22,23] [dZ,dZ,(0,false,some (.int .u32 (rg hs 0 : Int))),dZ,dZ,(0,false,some (.int .u32 (rg hs 1 : Int))),dZ,dZ,(0,false,some (.int .u32 (rg hs 2 : Int))),dZ,dZ,(0,false,some (.int .u32 (rg hs 3 : Int))),dZ,dZ,(0,false,some (.int .u32 (rg hs 4 : Int))),dZ,dZ,(0,false,some (.int .u32 (rg hs 5 : Int))),dZ,dZ,(0,false,some (.int .u32 (rg hs 6 : Int))),dZ,dZ,(0,false,some (.int .u32 (rg hs 7 : Int)))] (some [2,3,6,7,8,9,174,177,180,183,186,189,192,195]) #[true,true,true,true,true,true,true,true,true,true,true,true,true,true,true,true,true,true,true,true,true,true,true,true,false,false] (.cons_cons _ (.cons_cons _ (.cons_cons _ (.cons_cons _ (List.Sublist.refl _))))) 2 (fun S => [(0 ≤ (0 : Int) ∧ (0 : Int) < (8 : Int)),(∀ w1,S w1 → w1.cell? ⟨hb,0,none⟩ = some (.int .u32 (rg hs 0 : Int))),(0 ≤ (1 : Int) ∧ (1 : Int) < (8 : Int)),(∀ w1,S w1 → w1.cell? ⟨hb,1,none⟩ = some (.int .u32 (rg hs 1 : Int))),(0 ≤ (2 : Int) ∧ (2 : Int) < (8 : Int)),(∀ w1,S w1 → w1.cell? ⟨hb,2,none⟩ = some (.int .u32 (rg hs 2 : Int))),(0 ≤ (3 : Int) ∧ (3 : Int) < (8 : Int)),(∀ w1,S w1 → w1.cell? ⟨hb,3,none⟩ = some (.int .u32 (rg hs 3 : Int))),(0 ≤ (4 : Int) ∧ (4 : Int) < (8 : Int)),(∀ w1,S w1 → w1.cell? ⟨hb,4,none⟩ = some (.int .u32 (rg hs 4 : Int))),(0 ≤ (5 : Int) ∧ (5 : Int) < (8 : Int)),(∀ w1,S w1 → w1.cell? ⟨hb,5,none⟩ = some (.int .u32 (rg hs 5 : Int))),(0 ≤ (6 : Int) ∧ (6 : Int) < (8 : Int)),(∀ w1,S w1 → w1.cell? ⟨hb,6,none⟩ = some (.int .u32 (rg hs 6 : Int))),(0 ≤ (7 : Int) ∧ (7 : Int) < (8 : Int)),(∀ w1,S w1 → w1.cell? ⟨hb,7,none⟩ = some (.int .u32 (rg hs 7 : Int)))]) ⟨om,(fun w1 h => h.ocell 2 rfl (wv_get hh om)),om,(fun w1 h => h.ocell 2 rfl (wv_get hh om)),om,(fun w1 h => h.ocell 2 rfl (wv_get hh om)),om,(fun w1 h => h.ocell 2 rfl (wv_get hh om)),om,(fun w1 h => h.ocell 2 rfl (wv_get hh om)),om,(fun w1 h => h.ocell 2 rfl (wv_get hh om)),om,(fun w1 h => h.ocell 2 rfl (wv_get hh om)),om,(fun w1 h => h.ocell 2 rfl (wv_get hh om)),trivial⟩ ?_
           refine Ae 24 rfl 1  (Eff.buildSlice (e := 102) (cells := #[.int .u32 (rg hs 0 : Int),.int .u32 (rg hs 1 : Int),.int .u32 (rg hs 2 : Int),.int .u32 (rg hs 3 : Int),.int .u32 (rg hs 4 : Int),.int .u32 (rg hs 5 : Int),.int .u32 (rg hs 6 : Int),.int .u32 (rg hs 7 : Int)]) (parts := #[(0,.int .u32 (rg hs 0 : Int)),(1,.int .u32 (rg hs 1 : Int)),(2,.int .u32 (rg hs 2 : Int)),(3,.int .u32 (rg hs 3 : Int)),(4,.int .u32 (rg hs 4 : Int)),(5,.int .u32 (rg hs 5 : Int)),(6,.int .u32 (rg hs 6 : Int)),(7,.int .u32 (rg hs 7 : Int))]) rfl kr (fun _ => kr)) (fun _ _ => (.cons _ (.cons_cons _ (.cons_cons _ (.cons_cons _ (.cons_cons _ (List.Sublist.refl _))))))) ?_
           rintro va ⟨hva,nva⟩
           refine Ap [25] [] (some [2,3,6,7,8,9,14]) #[true,true,true,true,true,true,true,true,true,true,true,true,true,true,true,true,true,true,true,true,true,true,true,true,true,true] (.cons _ (.cons_cons _ (.cons_cons _ (.cons_cons _ (.cons_cons _ (List.Sublist.refl _)))))) 0 n0 trivial ?_
           refine CfgA.done kr ?_
           refine Rg [2,3,6,7,8,9,14,15] [] n0 trivial ?_
           refine Cfg.setO (congrArg (fun (xq : Array Value) => (([(va,.cells xq 102 (0,0)),(wb,.cells (wv (row bl 64)) 102 (0,0)),(cb,.cells (wv Kc) 102 (0,0)),(hb,.cells (wv hs) 102 (0,0)),(rs,.cells (bv (List.replicate 32 0)) 35 (0,0))] ++ (MO.o 5 ((bv M).toList) mo ++ [])) : List (Nat × Obj))) (show _ = (wv (w8l (rv hs bl 0))) from rfl)) ?_
           refine Cfg.loop rfl (ι := Nat × Nat) (fun (xz : Nat × Nat) => match xz with | (t,v) => [(15,[],.int .i64 (t : Int)),(14,[],.slice (some ⟨v,0,none⟩) 8 8),(9,[],.slice (some ⟨wb,0,none⟩) 64 64),(8,[],.int .i64 (((64 * q) : Nat) : Int)),(7,[],.slice (some ⟨cb,0,none⟩) 64 64),(6,[],.slice (some ⟨hb,0,none⟩) 8 8),(3,[],.slice (some ⟨mo.b,0,none⟩) (s.size + 1 + ((119 - s.size % 64) % 64) + 8) mo.cap),(2,[],.pointer (some ⟨rs,0,none⟩))]) (fun (xz : Nat × Nat) => match xz with | (t,v) => ([(v,.cells (wv (w8l (rv hs bl t))) 102 (0,0)),(wb,.cells (wv (row bl 64)) 102 (0,0)),(cb,.cells (wv Kc) 102 (0,0)),(hb,.cells (wv hs) 102 (0,0)),(rs,.cells (bv (List.replicate 32 0)) 35 (0,0))] ++ (MO.o 5 ((bv M).toList) mo ++ []))) (fun (xz : Nat × Nat) => match xz with | (t,v) => (t ≤ 64)) (fun (xz : Nat × Nat) => match xz with | (t,v) => 64 - t) (0,va) ?_ (Conv.mk kr) (List.Sublist.refl _) ?_
           ·exact Nat.zero_le _
           ·rintro ⟨t,v⟩ ht
            have ok := rv_ok hlt bl t
            refine Rg [2,3,6,7,8,9,14,15,198] [] n0 trivial ?_
            refine Cfg.cond rfl (b := (decide ((t : Int) < (64 : Int)))) kr (fun c6r => ?_) (fun c6r => ?_)
            ·have c6 := (of_decide_eq_true c6r)
             refine Cfg.begA rfl kr ([(v,.cells (wv (w8l (rv hs bl t))) 102 (0,0)),(wb,.cells (wv (row bl 64)) 102 (0,0)),(cb,.cells (wv Kc) 102 (0,0)),(hb,.cells (wv hs) 102 (0,0)),(rs,.cells (bv (List.replicate 32 0)) 35 (0,0))] ++ (MO.o 5 ((bv M).toList) mo ++ [])) ?_
             refine Ap [0,1,2,4,5,6,9,10,11] [dZ,dZ,(0,false,some (.int .u32 ((rv hs bl t).e : Int))),dZ,dZ,(0,false,some (.int .u32 ((rv hs bl t).e : Int))),dZ,dZ,(0,false,some (.int .u32 ((rv hs bl t).e : Int)))] (some [2,3,6,7,8,9,14,15,203,207,212]) #[true,true,true,false,true,true,true,false,false,true,true,true,false,false,false] (.cons_cons _ (.cons_cons _ (.cons_cons _ (.cons_cons _ (.cons_cons _ (List.Sublist.refl _)))))) 6 (fun S => [(0 ≤ (4 : Int) ∧ (4 : Int) < (8 : Int)),(∀ w1,S w1 → w1.cell? ⟨v,4,none⟩ = some (.int .u32 ((rv hs bl t).e : Int))),(0 ≤ (4 : Int) ∧ (4 : Int) < (8 : Int)),(∀ w1,S w1 → w1.cell? ⟨v,4,none⟩ = some (.int .u32 ((rv hs bl t).e : Int))),(0 ≤ (4 : Int) ∧ (4 : Int) < (8 : Int)),(∀ w1,S w1 → w1.cell? ⟨v,4,none⟩ = some (.int .u32 ((rv hs bl t).e : Int)))]) ⟨om,(fun w1 h => h.ocell 0 rfl rfl),om,(fun w1 h => h.ocell 0 rfl rfl),om,(fun w1 h => h.ocell 0 rfl rfl),trivial⟩ ?_
             refine Ae 3 rfl 5  (Eff.callA (vs := [.int .u32 ((rv hs bl t).e : Int),.int .i64 6]) (.int .u32 (rotl ((rv hs bl t).e) 67108864 64 : Int)) rfl Tryz.func44 rfl rfl kr (fun w1 _ => rRotr6 _ w1 ok.e)) (fun _ _ => (.cons_cons _ (.cons_cons _ (.cons_cons _ (.cons_cons _ (.cons_cons _ (List.Sublist.refl _))))))) ?_
             rintro ⟨⟩ -
             refine Ae 7 rfl 4  (Eff.callA (vs := [.int .u32 ((rv hs bl t).e : Int),.int .i64 11]) (.int .u32 (rotl ((rv hs bl t).e) 2097152 2048 : Int)) rfl Tryz.func44 rfl rfl kr (fun w1 _ => rRotr11 _ w1 ok.e)) (fun _ _ => (.cons_cons _ (.cons_cons _ (.cons_cons _ (.cons_cons _ (.cons_cons _ (List.Sublist.refl _))))))) ?_
             rintro ⟨⟩ -
             refine Ap [8] [] (some [2,3,6,7,8,9,14,15,209,212]) #[true,true,true,true,true,true,true,true,true,true,true,true,false,false,false] (.cons_cons _ (.cons_cons _ (.cons_cons _ (.cons_cons _ (.cons_cons _ (List.Sublist.refl _)))))) 3 (fun _ => [((0 ≤ (rotl ((rv hs bl t).e) 67108864 64 : Int) ∧ (rotl ((rv hs bl t).e) 67108864 64 : Int) ≤ 4294967295) ∧ 0 ≤ (rotl ((rv hs bl t).e) 2097152 2048 : Int) ∧ (rotl ((rv hs bl t).e) 2097152 2048 : Int) ≤ 4294967295)]) ⟨⟨⟨Int.natCast_nonneg _,le_pow (b := 32) (rotl_lt ok.e)⟩,⟨Int.natCast_nonneg _,le_pow (b := 32) (rotl_lt ok.e)⟩⟩,trivial⟩ ?_
             refine Ae 12 rfl 2  (Eff.callA (vs := [.int .u32 ((rv hs bl t).e : Int),.int .i64 25]) (.int .u32 (rotl ((rv hs bl t).e) 128 33554432 : Int)) rfl Tryz.func44 rfl rfl kr (fun w1 _ => rRotr25 _ w1 ok.e)) (fun _ _ => (.cons_cons _ (.cons_cons _ (.cons_cons _ (.cons_cons _ (.cons_cons _ (List.Sublist.refl _))))))) ?_
             rintro ⟨⟩ -
             refine CfgA.pure [13,14] [] (some [2,3,6,7,8,9,14,15,16]) (l' := tF 15 0) kr kr (.cons_cons _ (.cons_cons _ (.cons_cons _ (.cons_cons _ (.cons_cons _ (List.Sublist.refl _)))))) 0 rfl (Γ' := [(16,[],.int .u32 (((((((rotl ((rv hs bl t).e) 67108864 64 : Int)).toNat ^^^ ((rotl ((rv hs bl t).e) 2097152 2048 : Int)).toNat : Nat) : Int)).toNat ^^^ ((rotl ((rv hs bl t).e) 128 33554432 : Int)).toNat : Nat) : Int)),(15,[],.int .i64 (t : Int)),(14,[],.slice (some ⟨v,0,none⟩) 8 8),(9,[],.slice (some ⟨wb,0,none⟩) 64 64),(8,[],.int .i64 (((64 * q) : Nat) : Int)),(7,[],.slice (some ⟨cb,0,none⟩) 64 64),(6,[],.slice (some ⟨hb,0,none⟩) 8 8),(3,[],.slice (some ⟨mo.b,0,none⟩) (s.size + 1 + ((119 - s.size % 64) % 64) + 8) mo.cap),(2,[],.pointer (some ⟨rs,0,none⟩))]) (nd := (fun _ => [((0 ≤ ((((rotl ((rv hs bl t).e) 67108864 64 : Int)).toNat ^^^ ((rotl ((rv hs bl t).e) 2097152 2048 : Int)).toNat : Nat) : Int) ∧ ((((rotl ((rv hs bl t).e) 67108864 64 : Int)).toNat ^^^ ((rotl ((rv hs bl t).e) 2097152 2048 : Int)).toNat : Nat) : Int) ≤ 4294967295) ∧ 0 ≤ (rotl ((rv hs bl t).e) 128 33554432 : Int) ∧ (rotl ((rv hs bl t).e) 128 33554432 : Int) ≤ 4294967295)])) (fun _ => kr) ⟨⟨⟨Int.natCast_nonneg _,le_pow (b := 32) (Nat.xor_lt_two_pow (tn_lt (rotl_lt ok.e)) (tn_lt (rotl_lt ok.e)))⟩,⟨Int.natCast_nonneg _,le_pow (b := 32) (rotl_lt ok.e)⟩⟩,trivial⟩ ?_
             refine CfgA.done kr ?_
             refine Cg (Γ' := [(16,[],.int .u32 (((((((rotl ((rv hs bl t).e) 67108864 64 : Int)).toNat ^^^ ((rotl ((rv hs bl t).e) 2097152 2048 : Int)).toNat : Nat) : Int)).toNat ^^^ ((rotl ((rv hs bl t).e) 128 33554432 : Int)).toNat : Nat) : Int)),(15,[],.int .i64 (t : Int)),(14,[],.slice (some ⟨v,0,none⟩) 8 8),(9,[],.slice (some ⟨wb,0,none⟩) 64 64),(8,[],.int .i64 (((64 * q) : Nat) : Int)),(7,[],.slice (some ⟨cb,0,none⟩) 64 64),(6,[],.slice (some ⟨hb,0,none⟩) 8 8),(3,[],.slice (some ⟨mo.b,0,none⟩) (s.size + 1 + ((119 - s.size % 64) % 64) + 8) mo.cap),(2,[],.pointer (some ⟨rs,0,none⟩))]) ?_
             refine Cfg.setG (congrArg (fun (xq : Int) => ([(16,[],.int .u32 xq),(15,[],.int .i64 (t : Int)),(14,[],.slice (some ⟨v,0,none⟩) 8 8),(9,[],.slice (some ⟨wb,0,none⟩) 64 64),(8,[],.int .i64 (((64 * q) : Nat) : Int)),(7,[],.slice (some ⟨cb,0,none⟩) 64 64),(6,[],.slice (some ⟨hb,0,none⟩) 8 8),(3,[],.slice (some ⟨mo.b,0,none⟩) (s.size + 1 + ((119 - s.size % 64) % 64) + 8) mo.cap),(2,[],.pointer (some ⟨rs,0,none⟩))] : Env)) (show _ = (bigE (rv hs bl t).e : Int) from bigE_eq _)) ?_
             refine Cfg.regD rfl kr [2,3,6,7,8,9,14,15,16,17] [dZ,dZ,(0,false,some (.int .u32 ((rv hs bl t).e : Int))),dZ,dZ,(0,false,some (.int .u32 ((rv hs bl t).f : Int))),dZ,dZ,dZ,(0,false,some (.int .u32 ((rv hs bl t).e : Int))),dZ,dZ,dZ,(0,false,some (.int .u32 ((rv hs bl t).g : Int)))] (Γ' := [(17,[],.int .u32 ((((((((rv hs bl t).e : Int)).toNat &&& (((rv hs bl t).f : Int)).toNat : Nat) : Int)).toNat ^^^ ((((((4294967295 - ((rv hs bl t).e : Int)) % 4294967296)).toNat &&& (((rv hs bl t).g : Int)).toNat : Nat) : Int)).toNat : Nat) : Int)),(16,[],.int .u32 (bigE (rv hs bl t).e : Int)),(15,[],.int .i64 (t : Int)),(14,[],.slice (some ⟨v,0,none⟩) 8 8),(9,[],.slice (some ⟨wb,0,none⟩) 64 64),(8,[],.int .i64 (((64 * q) : Nat) : Int)),(7,[],.slice (some ⟨cb,0,none⟩) 64 64),(6,[],.slice (some ⟨hb,0,none⟩) 8 8),(3,[],.slice (some ⟨mo.b,0,none⟩) (s.size + 1 + ((119 - s.size % 64) % 64) + 8) mo.cap),(2,[],.pointer (some ⟨rs,0,none⟩))]) (nd := (fun S => [(0 ≤ (4 : Int) ∧ (4 : Int) < (8 : Int)),(∀ w1,S w1 → w1.cell? ⟨v,4,none⟩ = some (.int .u32 ((rv hs bl t).e : Int))),(0 ≤ (5 : Int) ∧ (5 : Int) < (8 : Int)),(∀ w1,S w1 → w1.cell? ⟨v,5,none⟩ = some (.int .u32 ((rv hs bl t).f : Int))),((0 ≤ ((rv hs bl t).e : Int) ∧ ((rv hs bl t).e : Int) ≤ 4294967295) ∧ 0 ≤ ((rv hs bl t).f : Int) ∧ ((rv hs bl t).f : Int) ≤ 4294967295),(0 ≤ (4 : Int) ∧ (4 : Int) < (8 : Int)),(∀ w1,S w1 → w1.cell? ⟨v,4,none⟩ = some (.int .u32 ((rv hs bl t).e : Int))),(0 ≤ (6 : Int) ∧ (6 : Int) < (8 : Int)),(∀ w1,S w1 → w1.cell? ⟨v,6,none⟩ = some (.int .u32 ((rv hs bl t).g : Int))),((0 ≤ ((4294967295 - ((rv hs bl t).e : Int)) % 4294967296) ∧ ((4294967295 - ((rv hs bl t).e : Int)) % 4294967296) ≤ 4294967295) ∧ 0 ≤ ((rv hs bl t).g : Int) ∧ ((rv hs bl t).g : Int) ≤ 4294967295),((0 ≤ (((((rv hs bl t).e : Int)).toNat &&& (((rv hs bl t).f : Int)).toNat : Nat) : Int) ∧ (((((rv hs bl t).e : Int)).toNat &&& (((rv hs bl t).f : Int)).toNat : Nat) : Int) ≤ 4294967295) ∧ 0 ≤ (((((4294967295 - ((rv hs bl t).e : Int)) % 4294967296)).toNat &&& (((rv hs bl t).g : Int)).toNat : Nat) : Int) ∧ (((((4294967295 - ((rv hs bl t).e : Int)) % 4294967296)).toNat &&& (((rv hs bl t).g : Int)).toNat : Nat) : Int) ≤ 4294967295)])) kr kr (fun _ => kr) ⟨om,(fun w1 h => h.ocell 0 rfl rfl),om,(fun w1 h => h.ocell 0 rfl rfl),⟨⟨Int.natCast_nonneg _,le_pow (b := 32) ok.e⟩,⟨Int.natCast_nonneg _,le_pow (b := 32) ok.f⟩⟩,om,(fun w1 h => h.ocell 0 rfl rfl),om,(fun w1 h => h.ocell 0 rfl rfl),⟨⟨by omega,by omega⟩,⟨Int.natCast_nonneg _,le_pow (b := 32) ok.g⟩⟩,⟨⟨Int.natCast_nonneg _,le_pow (b := 32) (Nat.and_lt_two_pow _ (tn_lt ok.f))⟩,⟨Int.natCast_nonneg _,le_pow (b := 32) (Nat.and_lt_two_pow _ (tn_lt ok.g))⟩⟩,trivial⟩ ?_
             refine Cg (Γ' := [(17,[],.int .u32 ((((((((rv hs bl t).e : Int)).toNat &&& (((rv hs bl t).f : Int)).toNat : Nat) : Int)).toNat ^^^ ((((((4294967295 - ((rv hs bl t).e : Int)) % 4294967296)).toNat &&& (((rv hs bl t).g : Int)).toNat : Nat) : Int)).toNat : Nat) : Int)),(16,[],.int .u32 (bigE (rv hs bl t).e : Int)),(15,[],.int .i64 (t : Int)),(14,[],.slice (some ⟨v,0,none⟩) 8 8),(9,[],.slice (some ⟨wb,0,none⟩) 64 64),(8,[],.int .i64 (((64 * q) : Nat) : Int)),(7,[],.slice (some ⟨cb,0,none⟩) 64 64),(6,[],.slice (some ⟨hb,0,none⟩) 8 8),(3,[],.slice (some ⟨mo.b,0,none⟩) (s.size + 1 + ((119 - s.size % 64) % 64) + 8) mo.cap),(2,[],.pointer (some ⟨rs,0,none⟩))]) ?_
             refine Cfg.setG (congrArg (fun (xq : Int) => ([(17,[],.int .u32 xq),(16,[],.int .u32 (bigE (rv hs bl t).e : Int)),(15,[],.int .i64 (t : Int)),(14,[],.slice (some ⟨v,0,none⟩) 8 8),(9,[],.slice (some ⟨wb,0,none⟩) 64 64),(8,[],.int .i64 (((64 * q) : Nat) : Int)),(7,[],.slice (some ⟨cb,0,none⟩) 64 64),(6,[],.slice (some ⟨hb,0,none⟩) 8 8),(3,[],.slice (some ⟨mo.b,0,none⟩) (s.size + 1 + ((119 - s.size % 64) % 64) + 8) mo.cap),(2,[],.pointer (some ⟨rs,0,none⟩))] : Env)) (show _ = (choi (rv hs bl t).e (rv hs bl t).f (rv hs bl t).g : Int) from choi_eq2 ok.e _ _)) ?_
             refine Cfg.regD rfl kr [2,3,6,7,8,9,14,15,18] [dZ,dZ,(0,false,some (.int .u32 ((rv hs bl t).h : Int))),dZ,dZ,dZ,dZ,dZ,dZ,dZ,(0,false,some (.int .u32 (rg Kc t : Int))),dZ,dZ,dZ,dZ,(0,false,some (.int .u32 (rg (row bl 64) t : Int)))] (Γ' := [(18,[],.int .u32 ((((((((((rv hs bl t).h : Int) + (bigE (rv hs bl t).e : Int)) % 4294967296) + (choi (rv hs bl t).e (rv hs bl t).f (rv hs bl t).g : Int)) % 4294967296) + (rg Kc t : Int)) % 4294967296) + (rg (row bl 64) t : Int)) % 4294967296)),(15,[],.int .i64 (t : Int)),(14,[],.slice (some ⟨v,0,none⟩) 8 8),(9,[],.slice (some ⟨wb,0,none⟩) 64 64),(8,[],.int .i64 (((64 * q) : Nat) : Int)),(7,[],.slice (some ⟨cb,0,none⟩) 64 64),(6,[],.slice (some ⟨hb,0,none⟩) 8 8),(3,[],.slice (some ⟨mo.b,0,none⟩) (s.size + 1 + ((119 - s.size % 64) % 64) + 8) mo.cap),(2,[],.pointer (some ⟨rs,0,none⟩))]) (nd := (fun S => [(0 ≤ (7 : Int) ∧ (7 : Int) < (8 : Int)),(∀ w1,S w1 → w1.cell? ⟨v,7,none⟩ = some (.int .u32 ((rv hs bl t).h : Int))),(0 ≤ (t : Int) ∧ (t : Int) < (64 : Int)),(∀ w1,S w1 → w1.cell? ⟨cb,t,none⟩ = some (.int .u32 (rg Kc t : Int))),(0 ≤ (t : Int) ∧ (t : Int) < (64 : Int)),(∀ w1,S w1 → w1.cell? ⟨wb,t,none⟩ = some (.int .u32 (rg (row bl 64) t : Int)))])) kr kr (fun _ => kr) ⟨om,(fun w1 h => h.ocell 0 rfl rfl),om,(fun w1 h => h.ocell 2 rfl (kget om)),om,(fun w1 h => h.ocell 1 rfl (wv_get (row_len _ 64) om)),trivial⟩ ?_
             refine Cg (Γ' := [(18,[],.int .u32 ((((((((((rv hs bl t).h : Int) + (bigE (rv hs bl t).e : Int)) % 4294967296) + (choi (rv hs bl t).e (rv hs bl t).f (rv hs bl t).g : Int)) % 4294967296) + (rg Kc t : Int)) % 4294967296) + (rg (row bl 64) t : Int)) % 4294967296)),(15,[],.int .i64 (t : Int)),(14,[],.slice (some ⟨v,0,none⟩) 8 8),(9,[],.slice (some ⟨wb,0,none⟩) 64 64),(8,[],.int .i64 (((64 * q) : Nat) : Int)),(7,[],.slice (some ⟨cb,0,none⟩) 64 64),(6,[],.slice (some ⟨hb,0,none⟩) 8 8),(3,[],.slice (some ⟨mo.b,0,none⟩) (s.size + 1 + ((119 - s.size % 64) % 64) + 8) mo.cap),(2,[],.pointer (some ⟨rs,0,none⟩))]) ?_
             refine Cfg.setG (congrArg (fun (xq : Int) => ([(18,[],.int .u32 xq),(15,[],.int .i64 (t : Int)),(14,[],.slice (some ⟨v,0,none⟩) 8 8),(9,[],.slice (some ⟨wb,0,none⟩) 64 64),(8,[],.int .i64 (((64 * q) : Nat) : Int)),(7,[],.slice (some ⟨cb,0,none⟩) 64 64),(6,[],.slice (some ⟨hb,0,none⟩) 8 8),(3,[],.slice (some ⟨mo.b,0,none⟩) (s.size + 1 + ((119 - s.size % 64) % 64) + 8) mo.cap),(2,[],.pointer (some ⟨rs,0,none⟩))] : Env)) (show _ = (frst (rg Kc t) (rg (row bl 64) t) (rv hs bl t) : Int) from frst_eq _ _ _)) ?_
             refine Cfg.begA rfl kr ([(v,.cells (wv (w8l (rv hs bl t))) 102 (0,0)),(wb,.cells (wv (row bl 64)) 102 (0,0)),(cb,.cells (wv Kc) 102 (0,0)),(hb,.cells (wv hs) 102 (0,0)),(rs,.cells (bv (List.replicate 32 0)) 35 (0,0))] ++ (MO.o 5 ((bv M).toList) mo ++ [])) ?_
             refine Ap [0,1,2,4,5,6,9,10,11] [dZ,dZ,(0,false,some (.int .u32 ((rv hs bl t).a : Int))),dZ,dZ,(0,false,some (.int .u32 ((rv hs bl t).a : Int))),dZ,dZ,(0,false,some (.int .u32 ((rv hs bl t).a : Int)))] (some [2,3,6,7,8,9,14,15,18,250,254,259]) #[true,true,true,false,true,true,true,false,false,true,true,true,false,false,false] (.cons_cons _ (.cons_cons _ (.cons_cons _ (.cons_cons _ (.cons_cons _ (List.Sublist.refl _)))))) 6 (fun S => [(0 ≤ (0 : Int) ∧ (0 : Int) < (8 : Int)),(∀ w1,S w1 → w1.cell? ⟨v,0,none⟩ = some (.int .u32 ((rv hs bl t).a : Int))),(0 ≤ (0 : Int) ∧ (0 : Int) < (8 : Int)),(∀ w1,S w1 → w1.cell? ⟨v,0,none⟩ = some (.int .u32 ((rv hs bl t).a : Int))),(0 ≤ (0 : Int) ∧ (0 : Int) < (8 : Int)),(∀ w1,S w1 → w1.cell? ⟨v,0,none⟩ = some (.int .u32 ((rv hs bl t).a : Int)))]) ⟨om,(fun w1 h => h.ocell 0 rfl rfl),om,(fun w1 h => h.ocell 0 rfl rfl),om,(fun w1 h => h.ocell 0 rfl rfl),trivial⟩ ?_
             refine Ae 3 rfl 5  (Eff.callA (vs := [.int .u32 ((rv hs bl t).a : Int),.int .i64 2]) (.int .u32 (rotl ((rv hs bl t).a) 1073741824 4 : Int)) rfl Tryz.func44 rfl rfl kr (fun w1 _ => rRotr2 _ w1 ok.a)) (fun _ _ => (.cons_cons _ (.cons_cons _ (.cons_cons _ (.cons_cons _ (.cons_cons _ (List.Sublist.refl _))))))) ?_
             rintro ⟨⟩ -
             refine Ae 7 rfl 4  (Eff.callA (vs := [.int .u32 ((rv hs bl t).a : Int),.int .i64 13]) (.int .u32 (rotl ((rv hs bl t).a) 524288 8192 : Int)) rfl Tryz.func44 rfl rfl kr (fun w1 _ => rRotr13 _ w1 ok.a)) (fun _ _ => (.cons_cons _ (.cons_cons _ (.cons_cons _ (.cons_cons _ (.cons_cons _ (List.Sublist.refl _))))))) ?_
             rintro ⟨⟩ -
             refine Ap [8] [] (some [2,3,6,7,8,9,14,15,18,256,259]) #[true,true,true,true,true,true,true,true,true,true,true,true,false,false,false] (.cons_cons _ (.cons_cons _ (.cons_cons _ (.cons_cons _ (.cons_cons _ (List.Sublist.refl _)))))) 3 (fun _ => [((0 ≤ (rotl ((rv hs bl t).a) 1073741824 4 : Int) ∧ (rotl ((rv hs bl t).a) 1073741824 4 : Int) ≤ 4294967295) ∧ 0 ≤ (rotl ((rv hs bl t).a) 524288 8192 : Int) ∧ (rotl ((rv hs bl t).a) 524288 8192 : Int) ≤ 4294967295)]) ⟨⟨⟨Int.natCast_nonneg _,le_pow (b := 32) (rotl_lt ok.a)⟩,⟨Int.natCast_nonneg _,le_pow (b := 32) (rotl_lt ok.a)⟩⟩,trivial⟩ ?_
             refine Ae 12 rfl 2  (Eff.callA (vs := [.int .u32 ((rv hs bl t).a : Int),.int .i64 22]) (.int .u32 (rotl ((rv hs bl t).a) 1024 4194304 : Int)) rfl Tryz.func44 rfl rfl kr (fun w1 _ => rRotr22 _ w1 ok.a)) (fun _ _ => (.cons_cons _ (.cons_cons _ (.cons_cons _ (.cons_cons _ (.cons_cons _ (List.Sublist.refl _))))))) ?_
             rintro ⟨⟩ -
             refine Ap [13,14] [] (some [2,3,6,7,8,9,14,15,18,19]) #[true,true,true,true,true,true,true,true,true,true,true,true,true,true,true] (.cons_cons _ (.cons_cons _ (.cons_cons _ (.cons_cons _ (.cons_cons _ (List.Sublist.refl _)))))) 0 (fun _ => [((0 ≤ ((((rotl ((rv hs bl t).a) 1073741824 4 : Int)).toNat ^^^ ((rotl ((rv hs bl t).a) 524288 8192 : Int)).toNat : Nat) : Int) ∧ ((((rotl ((rv hs bl t).a) 1073741824 4 : Int)).toNat ^^^ ((rotl ((rv hs bl t).a) 524288 8192 : Int)).toNat : Nat) : Int) ≤ 4294967295) ∧ 0 ≤ (rotl ((rv hs bl t).a) 1024 4194304 : Int) ∧ (rotl ((rv hs bl t).a) 1024 4194304 : Int) ≤ 4294967295)]) ⟨⟨⟨Int.natCast_nonneg _,le_pow (b := 32) (Nat.xor_lt_two_pow (tn_lt (rotl_lt ok.a)) (tn_lt (rotl_lt ok.a)))⟩,⟨Int.natCast_nonneg _,le_pow (b := 32) (rotl_lt ok.a)⟩⟩,trivial⟩ ?_
             refine CfgA.done kr ?_
             refine Cg (Γ' := [(19,[],.int .u32 (((((((rotl ((rv hs bl t).a) 1073741824 4 : Int)).toNat ^^^ ((rotl ((rv hs bl t).a) 524288 8192 : Int)).toNat : Nat) : Int)).toNat ^^^ ((rotl ((rv hs bl t).a) 1024 4194304 : Int)).toNat : Nat) : Int)),(18,[],.int .u32 (frst (rg Kc t) (rg (row bl 64) t) (rv hs bl t) : Int)),(15,[],.int .i64 (t : Int)),(14,[],.slice (some ⟨v,0,none⟩) 8 8),(9,[],.slice (some ⟨wb,0,none⟩) 64 64),(8,[],.int .i64 (((64 * q) : Nat) : Int)),(7,[],.slice (some ⟨cb,0,none⟩) 64 64),(6,[],.slice (some ⟨hb,0,none⟩) 8 8),(3,[],.slice (some ⟨mo.b,0,none⟩) (s.size + 1 + ((119 - s.size % 64) % 64) + 8) mo.cap),(2,[],.pointer (some ⟨rs,0,none⟩))]) ?_
             refine Cfg.setG (congrArg (fun (xq : Int) => ([(19,[],.int .u32 xq),(18,[],.int .u32 (frst (rg Kc t) (rg (row bl 64) t) (rv hs bl t) : Int)),(15,[],.int .i64 (t : Int)),(14,[],.slice (some ⟨v,0,none⟩) 8 8),(9,[],.slice (some ⟨wb,0,none⟩) 64 64),(8,[],.int .i64 (((64 * q) : Nat) : Int)),(7,[],.slice (some ⟨cb,0,none⟩) 64 64),(6,[],.slice (some ⟨hb,0,none⟩) 8 8),(3,[],.slice (some ⟨mo.b,0,none⟩) (s.size + 1 + ((119 - s.size % 64) % 64) + 8) mo.cap),(2,[],.pointer (some ⟨rs,0,none⟩))] : Env)) (show _ = (bigA (rv hs bl t).a : Int) from bigA_eq _)) ?_
             refine Cfg.regD rfl kr [2,3,6,7,8,9,14,15,18,19,20] [dZ,dZ,(0,false,some (.int .u32 ((rv hs bl t).a : Int))),dZ,dZ,(0,false,some (.int .u32 ((rv hs bl t).b : Int))),dZ,dZ,dZ,(0,false,some (.int .u32 ((rv hs bl t).a : Int))),dZ,dZ,(0,false,some (.int .u32 ((rv hs bl t).c : Int))),dZ,dZ,dZ,dZ,(0,false,some (.int .u32 ((rv hs bl t).b : Int))),dZ,dZ,(0,false,some (.int .u32 ((rv hs bl t).c : Int)))] (Γ' := [(20,[],.int .u32 (((((((((((rv hs bl t).a : Int)).toNat &&& (((rv hs bl t).b : Int)).toNat : Nat) : Int)).toNat ^^^ ((((((rv hs bl t).a : Int)).toNat &&& (((rv hs bl t).c : Int)).toNat : Nat) : Int)).toNat : Nat) : Int)).toNat ^^^ ((((((rv hs bl t).b : Int)).toNat &&& (((rv hs bl t).c : Int)).toNat : Nat) : Int)).toNat : Nat) : Int)),(19,[],.int .u32 (bigA (rv hs bl t).a : Int)),(18,[],.int .u32 (frst (rg Kc t) (rg (row bl 64) t) (rv hs bl t) : Int)),(15,[],.int .i64 (t : Int)),(14,[],.slice (some ⟨v,0,none⟩) 8 8),(9,[],.slice (some ⟨wb,0,none⟩) 64 64),(8,[],.int .i64 (((64 * q) : Nat) : Int)),(7,[],.slice (some ⟨cb,0,none⟩) 64 64),(6,[],.slice (some ⟨hb,0,none⟩) 8 8),(3,[],.slice (some ⟨mo.b,0,none⟩) (s.size + 1 + ((119 - s.size % 64) % 64) + 8) mo.cap),(2,[],.pointer (some ⟨rs,0,none⟩))]) (nd := (fun S => [(0 ≤ (0 : Int) ∧ (0 : Int) < (8 : Int)),(∀ w1,S w1 → w1.cell? ⟨v,0,none⟩ = some (.int .u32 ((rv hs bl t).a : Int))),(0 ≤ (1 : Int) ∧ (1 : Int) < (8 : Int)),(∀ w1,S w1 → w1.cell? ⟨v,1,none⟩ = some (.int .u32 ((rv hs bl t).b : Int))),((0 ≤ ((rv hs bl t).a : Int) ∧ ((rv hs bl t).a : Int) ≤ 4294967295) ∧ 0 ≤ ((rv hs bl t).b : Int) ∧ ((rv hs bl t).b : Int) ≤ 4294967295),(0 ≤ (0 : Int) ∧ (0 : Int) < (8 : Int)),(∀ w1,S w1 → w1.cell? ⟨v,0,none⟩ = some (.int .u32 ((rv hs bl t).a : Int))),(0 ≤ (2 : Int) ∧ (2 : Int) < (8 : Int)),(∀ w1,S w1 → w1.cell? ⟨v,2,none⟩ = some (.int .u32 ((rv hs bl t).c : Int))),((0 ≤ ((rv hs bl t).a : Int) ∧ ((rv hs bl t).a : Int) ≤ 4294967295) ∧ 0 ≤ ((rv hs bl t).c : Int) ∧ ((rv hs bl t).c : Int) ≤ 4294967295),((0 ≤ (((((rv hs bl t).a : Int)).toNat &&& (((rv hs bl t).b : Int)).toNat : Nat) : Int) ∧ (((((rv hs bl t).a : Int)).toNat &&& (((rv hs bl t).b : Int)).toNat : Nat) : Int) ≤ 4294967295) ∧ 0 ≤ (((((rv hs bl t).a : Int)).toNat &&& (((rv hs bl t).c : Int)).toNat : Nat) : Int) ∧ (((((rv hs bl t).a : Int)).toNat &&& (((rv hs bl t).c : Int)).toNat : Nat) : Int) ≤ 4294967295),(0 ≤ (1 : Int) ∧ (1 : Int) < (8 : Int)),(∀ w1,S w1 → w1.cell? ⟨v,1,none⟩ = some (.int .u32 ((rv hs bl t).b : Int))),(0 ≤ (2 : Int) ∧ (2 : Int) < (8 : Int)),(∀ w1,S w1 → w1.cell? ⟨v,2,none⟩ = some (.int .u32 ((rv hs bl t).c : Int))),((0 ≤ ((rv hs bl t).b : Int) ∧ ((rv hs bl t).b : Int) ≤ 4294967295) ∧ 0 ≤ ((rv hs bl t).c : Int) ∧ ((rv hs bl t).c : Int) ≤ 4294967295),((0 ≤ ((((((((rv hs bl t).a : Int)).toNat &&& (((rv hs bl t).b : Int)).toNat : Nat) : Int)).toNat ^^^ ((((((rv hs bl t).a : Int)).toNat &&& (((rv hs bl t).c : Int)).toNat : Nat) : Int)).toNat : Nat) : Int) ∧ ((((((((rv hs bl t).a : Int)).toNat &&& (((rv hs bl t).b : Int)).toNat : Nat) : Int)).toNat ^^^ ((((((rv hs bl t).a : Int)).toNat &&& (((rv hs bl t).c : Int)).toNat : Nat) : Int)).toNat : Nat) : Int) ≤ 4294967295) ∧ 0 ≤ (((((rv hs bl t).b : Int)).toNat &&& (((rv hs bl t).c : Int)).toNat : Nat) : Int) ∧ (((((rv hs bl t).b : Int)).toNat &&& (((rv hs bl t).c : Int)).toNat : Nat) : Int) ≤ 4294967295)])) kr kr (fun _ => kr) ⟨om,(fun w1 h => h.ocell 0 rfl rfl),om,(fun w1 h => h.ocell 0 rfl rfl),⟨⟨Int.natCast_nonneg _,le_pow (b := 32) ok.a⟩,⟨Int.natCast_nonneg _,le_pow (b := 32) ok.b⟩⟩,om,(fun w1 h => h.ocell 0 rfl rfl),om,(fun w1 h => h.ocell 0 rfl rfl),⟨⟨Int.natCast_nonneg _,le_pow (b := 32) ok.a⟩,⟨Int.natCast_nonneg _,le_pow (b := 32) ok.c⟩⟩,⟨⟨Int.natCast_nonneg _,le_pow (b := 32) (Nat.and_lt_two_pow _ (tn_lt ok.b))⟩,⟨Int.natCast_nonneg _,le_pow (b := 32) (Nat.and_lt_two_pow _ (tn_lt ok.c))⟩⟩,om,(fun w1 h => h.ocell 0 rfl rfl),om,(fun w1 h => h.ocell 0 rfl rfl),⟨⟨Int.natCast_nonneg _,le_pow (b := 32) ok.b⟩,⟨Int.natCast_nonneg _,le_pow (b := 32) ok.c⟩⟩,⟨⟨Int.natCast_nonneg _,le_pow (b := 32) (Nat.xor_lt_two_pow (tn_lt (Nat.and_lt_two_pow _ (tn_lt ok.b))) (tn_lt (Nat.and_lt_two_pow _ (tn_lt ok.c))))⟩,⟨Int.natCast_nonneg _,le_pow (b := 32) (Nat.and_lt_two_pow _ (tn_lt ok.c))⟩⟩,trivial⟩ ?_
             refine Cg (Γ' := [(20,[],.int .u32 (((((((((((rv hs bl t).a : Int)).toNat &&& (((rv hs bl t).b : Int)).toNat : Nat) : Int)).toNat ^^^ ((((((rv hs bl t).a : Int)).toNat &&& (((rv hs bl t).c : Int)).toNat : Nat) : Int)).toNat : Nat) : Int)).toNat ^^^ ((((((rv hs bl t).b : Int)).toNat &&& (((rv hs bl t).c : Int)).toNat : Nat) : Int)).toNat : Nat) : Int)),(19,[],.int .u32 (bigA (rv hs bl t).a : Int)),(18,[],.int .u32 (frst (rg Kc t) (rg (row bl 64) t) (rv hs bl t) : Int)),(15,[],.int .i64 (t : Int)),(14,[],.slice (some ⟨v,0,none⟩) 8 8),(9,[],.slice (some ⟨wb,0,none⟩) 64 64),(8,[],.int .i64 (((64 * q) : Nat) : Int)),(7,[],.slice (some ⟨cb,0,none⟩) 64 64),(6,[],.slice (some ⟨hb,0,none⟩) 8 8),(3,[],.slice (some ⟨mo.b,0,none⟩) (s.size + 1 + ((119 - s.size % 64) % 64) + 8) mo.cap),(2,[],.pointer (some ⟨rs,0,none⟩))]) ?_
             refine Cfg.setG (congrArg (fun (xq : Int) => ([(20,[],.int .u32 xq),(19,[],.int .u32 (bigA (rv hs bl t).a : Int)),(18,[],.int .u32 (frst (rg Kc t) (rg (row bl 64) t) (rv hs bl t) : Int)),(15,[],.int .i64 (t : Int)),(14,[],.slice (some ⟨v,0,none⟩) 8 8),(9,[],.slice (some ⟨wb,0,none⟩) 64 64),(8,[],.int .i64 (((64 * q) : Nat) : Int)),(7,[],.slice (some ⟨cb,0,none⟩) 64 64),(6,[],.slice (some ⟨hb,0,none⟩) 8 8),(3,[],.slice (some ⟨mo.b,0,none⟩) (s.size + 1 + ((119 - s.size % 64) % 64) + 8) mo.cap),(2,[],.pointer (some ⟨rs,0,none⟩))] : Env)) (show _ = (most (rv hs bl t).a (rv hs bl t).b (rv hs bl t).c : Int) from most_eq _ _ _)) ?_
             refine Rg [2,3,6,7,8,9,14,15,18,21] [] n0 trivial ?_
             refine Cg (Γ' := [(21,[],.int .u32 (((bigA (rv hs bl t).a : Int) + (most (rv hs bl t).a (rv hs bl t).b (rv hs bl t).c : Int)) % 4294967296)),(18,[],.int .u32 (frst (rg Kc t) (rg (row bl 64) t) (rv hs bl t) : Int)),(15,[],.int .i64 (t : Int)),(14,[],.slice (some ⟨v,0,none⟩) 8 8),(9,[],.slice (some ⟨wb,0,none⟩) 64 64),(8,[],.int .i64 (((64 * q) : Nat) : Int)),(7,[],.slice (some ⟨cb,0,none⟩) 64 64),(6,[],.slice (some ⟨hb,0,none⟩) 8 8),(3,[],.slice (some ⟨mo.b,0,none⟩) (s.size + 1 + ((119 - s.size % 64) % 64) + 8) mo.cap),(2,[],.pointer (some ⟨rs,0,none⟩))]) ?_
             refine Cfg.setG (congrArg (fun (xq : Int) => ([(21,[],.int .u32 xq),(18,[],.int .u32 (frst (rg Kc t) (rg (row bl 64) t) (rv hs bl t) : Int)),(15,[],.int .i64 (t : Int)),(14,[],.slice (some ⟨v,0,none⟩) 8 8),(9,[],.slice (some ⟨wb,0,none⟩) 64 64),(8,[],.int .i64 (((64 * q) : Nat) : Int)),(7,[],.slice (some ⟨cb,0,none⟩) 64 64),(6,[],.slice (some ⟨hb,0,none⟩) 8 8),(3,[],.slice (some ⟨mo.b,0,none⟩) (s.size + 1 + ((119 - s.size % 64) % 64) + 8) mo.cap),(2,[],.pointer (some ⟨rs,0,none⟩))] : Env)) (show _ = (scnd (rv hs bl t) : Int) from scnd_eq _)) ?_
             refine Cfg.begA rfl kr ([(v,.cells (wv (w8l (rv hs bl t))) 102 (0,0)),(wb,.cells (wv (row bl 64)) 102 (0,0)),(cb,.cells (wv Kc) 102 (0,0)),(hb,.cells (wv hs) 102 (0,0)),(rs,.cells (bv (List.replicate 32 0)) 35 (0,0))] ++ (MO.o 5 ((bv M).toList) mo ++ [])) ?_
             refine Ap [0,1,2,3,4,5,6,7,8,9,10,11,12,13,14,15,16,17,18,19,20,21,22,23,24,25] [dZ,dZ,dZ,dZ,dZ,(0,false,some (.int .u32 ((rv hs bl t).a : Int))),dZ,dZ,(0,false,some (.int .u32 ((rv hs bl t).b : Int))),dZ,dZ,(0,false,some (.int .u32 ((rv hs bl t).c : Int))),dZ,dZ,(0,false,some (.int .u32 ((rv hs bl t).d : Int))),dZ,dZ,dZ,dZ,(0,false,some (.int .u32 ((rv hs bl t).e : Int))),dZ,dZ,(0,false,some (.int .u32 ((rv hs bl t).f : Int))),dZ,dZ,(0,false,some (.int .u32 ((rv hs bl t).g : Int)))] (some [2,3,6,7,8,9,14,15,290,293,296,299,304,307,310,313]) #[true,true,true,true,true,true,true,true,true,true,true,true,true,true,true,true,true,true,true,true,true,true,true,true,true,true,false,false] (.cons_cons _ (.cons_cons _ (.cons_cons _ (.cons_cons _ (.cons_cons _ (List.Sublist.refl _)))))) 2 (fun S => [(0 ≤ (0 : Int) ∧ (0 : Int) < (8 : Int)),(∀ w1,S w1 → w1.cell? ⟨v,0,none⟩ = some (.int .u32 ((rv hs bl t).a : Int))),(0 ≤ (1 : Int) ∧ (1 : Int) < (8 : Int)),(∀ w1,S w1 → w1.cell? ⟨v,1,none⟩ = some (.int .u32 ((rv hs bl t).b : Int))),(0 ≤ (2 : Int) ∧ (2 : Int) < (8 : Int)),(∀ w1,S w1 → w1.cell? ⟨v,2,none⟩ = some (.int .u32 ((rv hs bl t).c : Int))),(0 ≤ (3 : Int) ∧ (3 : Int) < (8 : Int)),(∀ w1,S w1 → w1.cell? ⟨v,3,none⟩ = some (.int .u32 ((rv hs bl t).d : Int))),(0 ≤ (4 : Int) ∧ (4 : Int) < (8 : Int)),(∀ w1,S w1 → w1.cell? ⟨v,4,none⟩ = some (.int .u32 ((rv hs bl t).e : Int))),(0 ≤ (5 : Int) ∧ (5 : Int) < (8 : Int)),(∀ w1,S w1 → w1.cell? ⟨v,5,none⟩ = some (.int .u32 ((rv hs bl t).f : Int))),(0 ≤ (6 : Int) ∧ (6 : Int) < (8 : Int)),(∀ w1,S w1 → w1.cell? ⟨v,6,none⟩ = some (.int .u32 ((rv hs bl t).g : Int)))]) ⟨om,(fun w1 h => h.ocell 0 rfl rfl),om,(fun w1 h => h.ocell 0 rfl rfl),om,(fun w1 h => h.ocell 0 rfl rfl),om,(fun w1 h => h.ocell 0 rfl rfl),om,(fun w1 h => h.ocell 0 rfl rfl),om,(fun w1 h => h.ocell 0 rfl rfl),om,(fun w1 h => h.ocell 0 rfl rfl),trivial⟩ ?_
             refine Ae 26 rfl 1  (Eff.buildSlice (e := 102) (cells := #[.int .u32 (((frst (rg Kc t) (rg (row bl 64) t) (rv hs bl t) : Int) + (scnd (rv hs bl t) : Int)) % 4294967296),.int .u32 ((rv hs bl t).a : Int),.int .u32 ((rv hs bl t).b : Int),.int .u32 ((rv hs bl t).c : Int),.int .u32 ((((rv hs bl t).d : Int) + (frst (rg Kc t) (rg (row bl 64) t) (rv hs bl t) : Int)) % 4294967296),.int .u32 ((rv hs bl t).e : Int),.int .u32 ((rv hs bl t).f : Int),.int .u32 ((rv hs bl t).g : Int)]) (parts := #[(0,.int .u32 (((frst (rg Kc t) (rg (row bl 64) t) (rv hs bl t) : Int) + (scnd (rv hs bl t) : Int)) % 4294967296)),(1,.int .u32 ((rv hs bl t).a : Int)),(2,.int .u32 ((rv hs bl t).b : Int)),(3,.int .u32 ((rv hs bl t).c : Int)),(4,.int .u32 ((((rv hs bl t).d : Int) + (frst (rg Kc t) (rg (row bl 64) t) (rv hs bl t) : Int)) % 4294967296)),(5,.int .u32 ((rv hs bl t).e : Int)),(6,.int .u32 ((rv hs bl t).f : Int)),(7,.int .u32 ((rv hs bl t).g : Int))]) rfl kr (fun _ => kr)) (fun _ _ => (.cons _ (.cons_cons _ (.cons_cons _ (.cons_cons _ (.cons_cons _ (.cons_cons _ (List.Sublist.refl _)))))))) ?_
             rintro vz ⟨hvz,nvz⟩
             refine Ap [27] [] (some [2,3,6,7,8,9,14,15]) #[true,true,true,true,true,true,true,true,true,true,true,true,true,true,true,true,true,true,true,true,true,true,true,true,true,true,true,true] (.cons _ (.cons_cons _ (.cons_cons _ (.cons_cons _ (.cons_cons _ (.cons_cons _ (List.Sublist.refl _))))))) 0 n0 trivial ?_
             refine CfgA.done kr ?_
             refine Rg [2,3,6,7,8,9,14,15] [] (fun _ => [((-9223372036854775808 : Int) ≤ ((t : Int) + 1) ∧ ((t : Int) + 1) ≤ 9223372036854775807)]) ⟨om,trivial⟩ ?_
             refine Cfg.setO (congrArg (fun (xq : Array Value) => (([(vz,.cells xq 102 (0,0)),(v,.cells (wv (w8l (rv hs bl t))) 102 (0,0)),(wb,.cells (wv (row bl 64)) 102 (0,0)),(cb,.cells (wv Kc) 102 (0,0)),(hb,.cells (wv hs) 102 (0,0)),(rs,.cells (bv (List.replicate 32 0)) 35 (0,0))] ++ (MO.o 5 ((bv M).toList) mo ++ [])) : List (Nat × Obj))) (show _ = (wv (w8l (rv hs bl (t + 1)))) from vrow _ _ t)) ?_
             refine Cfg.again rfl (t + 1,vz) (by show t + 1 ≤ 64; omega) (by show 64 - (t + 1) < 64 - t; omega) (Conv.mk kr) (.cons_cons _ (.cons _ (List.Sublist.refl _)))
            ·have c6 := (of_decide_eq_false c6r)
             obtain rfl : t = 64 := by omega
             refine Conv.cfg (Γ' := [(14,[],.slice (some ⟨v,0,none⟩) 8 8),(9,[],.slice (some ⟨wb,0,none⟩) 64 64),(8,[],.int .i64 (((64 * q) : Nat) : Int)),(7,[],.slice (some ⟨cb,0,none⟩) 64 64),(6,[],.slice (some ⟨hb,0,none⟩) 8 8),(3,[],.slice (some ⟨mo.b,0,none⟩) (s.size + 1 + ((119 - s.size % 64) % 64) + 8) mo.cap),(2,[],.pointer (some ⟨rs,0,none⟩))]) (Conv.mk kr) ?_
             refine Rg [2,3,6,7,8,14,22] [] n0 trivial ?_
             refine Cfg.setO (congrArg (fun (xq : Array Value) => (([(v,.cells (wv (w8l (rv hs bl 64))) 102 (0,0)),(wb,.cells (wv (row bl 64)) 102 (0,0)),(cb,.cells (wv Kc) 102 (0,0)),(hb,.cells xq 102 (0,0)),(rs,.cells (bv (List.replicate 32 0)) 35 (0,0))] ++ (MO.o 5 ((bv M).toList) mo ++ [])) : List (Nat × Obj))) (show _ = (wv (sm hs (w8l (rv hs bl 64)) 0)) from rfl)) ?_
             refine Cfg.loop rfl (ι := Nat) (fun (k : Nat) => [(22,[],.int .i64 (k : Int)),(14,[],.slice (some ⟨v,0,none⟩) 8 8),(8,[],.int .i64 (((64 * q) : Nat) : Int)),(7,[],.slice (some ⟨cb,0,none⟩) 64 64),(6,[],.slice (some ⟨hb,0,none⟩) 8 8),(3,[],.slice (some ⟨mo.b,0,none⟩) (s.size + 1 + ((119 - s.size % 64) % 64) + 8) mo.cap),(2,[],.pointer (some ⟨rs,0,none⟩))]) (fun (k : Nat) => ([(v,.cells (wv (w8l (rv hs bl 64))) 102 (0,0)),(wb,.cells (wv (row bl 64)) 102 (0,0)),(cb,.cells (wv Kc) 102 (0,0)),(hb,.cells (wv (sm hs (w8l (rv hs bl 64)) k)) 102 (0,0)),(rs,.cells (bv (List.replicate 32 0)) 35 (0,0))] ++ (MO.o 5 ((bv M).toList) mo ++ []))) (fun (k : Nat) => (k ≤ 8)) (fun (k : Nat) => 8 - k) 0 ?_ (Conv.mk kr) (.cons_cons _ (.cons_cons _ (.cons_cons _ (.cons_cons _ (.cons_cons _ (List.Sublist.refl _)))))) ?_
             ·exact Nat.zero_le _
             ·rintro k hk
              refine Rg [2,3,6,7,8,14,22,316] [] n0 trivial ?_
              refine Cfg.cond rfl (b := (decide ((k : Int) < (8 : Int)))) kr (fun c7r => ?_) (fun c7r => ?_)
              ·have c7 := (of_decide_eq_true c7r)
               refine Cfg.begA rfl kr ([(v,.cells (wv (w8l (rv hs bl 64))) 102 (0,0)),(wb,.cells (wv (row bl 64)) 102 (0,0)),(cb,.cells (wv Kc) 102 (0,0)),(rs,.cells (bv (List.replicate 32 0)) 35 (0,0))] ++ (MO.o 5 ((bv M).toList) mo ++ [])) ?_
               refine Ap [0,1,2,3,4,6,7,8,9] [dZ,dZ,dZ,dZ,dZ,dZ,dZ,dZ,(0,false,some (.int .u32 (rg (w8l (rv hs bl 64)) k : Int)))] (some [2,3,6,7,8,14,22,319,320,323,328]) #[true,true,true,true,true,false,true,true,true,true,false,false,false] (.cons_cons _ (.cons_cons _ (.cons_cons _ (.cons _ (.cons_cons _ (List.Sublist.refl _)))))) 4 (fun S => [(0 ≤ (k : Int) ∧ (k : Int) < (8 : Int)),(0 ≤ (k : Int) ∧ (k : Int) < (8 : Int)),(∀ w1,S w1 → w1.cell? ⟨v,k,none⟩ = some (.int .u32 (rg (w8l (rv hs bl 64)) k : Int)))]) ⟨om,om,(fun w1 h => h.ocell 0 rfl (wv_get (w8l_len _) om)),trivial⟩ ?_
               refine Ae 5 rfl 3  (Eff.quiet (raw := false) (orc := some (.int .u32 (rg (sm hs (w8l (rv hs bl 64)) k) k : Int))) (v := .int .u32 (rg (sm hs (w8l (rv hs bl 64)) k) k : Int)) (nd := (fun S => [(∀ w1,S w1 → w1.cell? ⟨hb,k,none⟩ = some (.int .u32 (rg (sm hs (w8l (rv hs bl 64)) k) k : Int)))])) (fun _ => kr) ⟨(fun w1 h => h.ocell 3 rfl (wv_get (sm_len _ hh k) om)),trivial⟩ kr) (fun _ _ => (.cons_cons _ (.cons_cons _ (.cons_cons _ (.cons _ (.cons_cons _ (List.Sublist.refl _))))))) ?_
               rintro ⟨⟩ -
               refine Ap [10,11] [] (some [2,3,6,7,8,14,22,329,330]) #[true,true,true,true,true,true,true,true,true,true,true,true,false] (.cons_cons _ (.cons_cons _ (.cons_cons _ (.cons _ (.cons_cons _ (List.Sublist.refl _)))))) 1 (fun _ => [(0 ≤ (k : Int) ∧ (k : Int) < (8 : Int))]) ⟨om,trivial⟩ ?_
               refine Ae 12 rfl 0  (Eff.store1 (b := hb) (off := k) (v := .int .u32 (((rg (sm hs (w8l (rv hs bl 64)) k) k : Int) + (rg (w8l (rv hs bl 64)) k : Int)) % 4294967296)) rfl kr kr rfl kr 3 (cs := (wv (sm hs (w8l (rv hs bl 64)) k))) (e := 102) kr (by rw [wv_size,sm_len _ hh k]; omega)) (fun _ _ => (.cons_cons _ (.cons_cons _ (.cons_cons _ (.cons _ (.cons_cons _ (List.Sublist.refl _))))))) ?_
               rintro ⟨⟩ -
               refine CfgA.done kr ?_
               refine Cg (Γ' := [(22,[],.int .i64 (k : Int)),(14,[],.slice (some ⟨v,0,none⟩) 8 8),(8,[],.int .i64 (((64 * q) : Nat) : Int)),(7,[],.slice (some ⟨cb,0,none⟩) 64 64),(6,[],.slice (some ⟨hb,0,none⟩) 8 8),(3,[],.slice (some ⟨mo.b,0,none⟩) (s.size + 1 + ((119 - s.size % 64) % 64) + 8) mo.cap),(2,[],.pointer (some ⟨rs,0,none⟩))]) ?_
               refine Rg [2,3,6,7,8,14,22] [] (fun _ => [((-9223372036854775808 : Int) ≤ ((k : Int) + 1) ∧ ((k : Int) + 1) ≤ 9223372036854775807)]) ⟨om,trivial⟩ ?_
               refine Cfg.setO (congrArg (fun (xq : Array Value) => (([(v,.cells (wv (w8l (rv hs bl 64))) 102 (0,0)),(wb,.cells (wv (row bl 64)) 102 (0,0)),(cb,.cells (wv Kc) 102 (0,0)),(hb,.cells xq 102 (0,0)),(rs,.cells (bv (List.replicate 32 0)) 35 (0,0))] ++ (MO.o 5 ((bv M).toList) mo ++ [])) : List (Nat × Obj))) (show _ = (wv (sm hs (w8l (rv hs bl 64)) (k + 1))) from wsum8 _ _ om hh)) ?_
               refine Cfg.again rfl (k + 1) (by show k + 1 ≤ 8; omega) (by show 8 - (k + 1) < 8 - k; omega) (Conv.mk kr) (.cons_cons _ (.cons_cons _ (.cons_cons _ (.cons_cons _ (.cons_cons _ (List.Sublist.refl _))))))
              ·have c7 := (of_decide_eq_false c7r)
               obtain rfl : k = 8 := by omega
               refine Conv.cfg (Γ' := [(14,[],.slice (some ⟨v,0,none⟩) 8 8),(8,[],.int .i64 (((64 * q) : Nat) : Int)),(7,[],.slice (some ⟨cb,0,none⟩) 64 64),(6,[],.slice (some ⟨hb,0,none⟩) 8 8),(3,[],.slice (some ⟨mo.b,0,none⟩) (s.size + 1 + ((119 - s.size % 64) % 64) + 8) mo.cap),(2,[],.pointer (some ⟨rs,0,none⟩))]) (Conv.mk kr) ?_
               refine Rg [2,3,6,7,8] [] (fun _ => [((-9223372036854775808 : Int) ≤ ((((64 * q) : Nat) : Int) + 64) ∧ ((((64 * q) : Nat) : Int) + 64) ≤ 9223372036854775807)]) ⟨om,trivial⟩ ?_
               have hmx : sm hs (w8l (rv hs bl 64)) 8 = mixes (q + 1) M H8 := by rw [hhs,hbl]; exact (mixes_succ q _ _).symm
               refine Cfg.setO (congrArg (fun (xq : Array Value) => (([(v,.cells (wv (w8l (rv hs bl 64))) 102 (0,0)),(wb,.cells (wv (row bl 64)) 102 (0,0)),(cb,.cells (wv Kc) 102 (0,0)),(hb,.cells xq 102 (0,0)),(rs,.cells (bv (List.replicate 32 0)) 35 (0,0))] ++ (MO.o 5 ((bv M).toList) mo ++ [])) : List (Nat × Obj))) (show _ = (wv (mixes (q + 1) M H8)) from by rw [hmx])) ?_
               refine Cfg.again rfl (q + 1) (by show q + 1 ≤ M.length / 64; omega) (by show M.length / 64 - (q + 1) < M.length / 64 - q; omega) (Conv.mk kr) (.cons _ (.cons _ (.cons_cons _ (.cons_cons _ (.cons_cons _ (List.Sublist.refl _))))))
      ·have c3 := (of_decide_eq_false c3r)
       obtain rfl : q = M.length / 64 := by omega
       subst hhs
       refine Conv.cfg (Γ' := [(7,[],.slice (some ⟨cb,0,none⟩) 64 64),(6,[],.slice (some ⟨hb,0,none⟩) 8 8),(3,[],.slice (some ⟨mo.b,0,none⟩) (s.size + 1 + ((119 - s.size % 64) % 64) + 8) mo.cap),(2,[],.pointer (some ⟨rs,0,none⟩))]) (Conv.mk kr) ?_
       refine Cfg.begL rfl ?_
       refine Le (Eff.alloc (z := (.agg (bv (List.replicate 32 0)))) rfl kr) ?_
       rintro d ⟨hd,nd⟩
       refine CfgL.done rfl ?_
       refine Cg (Γ' := [(23,[],.pointer (some ⟨d,0,none⟩)),(6,[],.slice (some ⟨hb,0,none⟩) 8 8),(2,[],.pointer (some ⟨rs,0,none⟩))]) ?_
       refine Rg [2,6,23,24] [] n0 trivial ?_
       refine Cfg.loop rfl (ι := Nat) (fun (k2 : Nat) => [(24,[],.int .i64 (k2 : Int)),(23,[],.pointer (some ⟨d,0,none⟩)),(6,[],.slice (some ⟨hb,0,none⟩) 8 8),(2,[],.pointer (some ⟨rs,0,none⟩))]) (fun (k2 : Nat) => ([(d,.cells (bv (dgr (mixes (M.length / 64) M H8) k2)) 35 (0,0)),(cb,.cells (wv Kc) 102 (0,0)),(hb,.cells (wv (mixes (M.length / 64) M H8)) 102 (0,0)),(rs,.cells (bv (List.replicate 32 0)) 35 (0,0))] ++ (MO.o 5 ((bv M).toList) mo ++ []))) (fun (k2 : Nat) => (k2 ≤ 8)) (fun (k2 : Nat) => 8 - k2) 0 ?_ (Conv.mk kr) (.cons_cons _ (.cons_cons _ (.cons_cons _ (.cons_cons _ (List.Sublist.refl _))))) ?_
       ·exact Nat.zero_le _
       ·rintro k2 hk2
        refine Rg [2,6,23,24,332] [] n0 trivial ?_
        refine Cfg.cond rfl (b := (decide ((k2 : Int) < (8 : Int)))) kr (fun c8r => ?_) (fun c8r => ?_)
        ·have c8 := (of_decide_eq_true c8r)
         refine Cfg.begL rfl ?_
         refine Lp 9 [dZ,dZ,dZ,dZ,dZ,(0,false,some (.int .u32 ((rg (mixes (M.length / 64) M H8) k2 : Nat) : Int)))] (some [2,6,23,24,342,343]) (fun S => [((-9223372036854775808 : Int) ≤ (4 * (k2 : Int)) ∧ (4 * (k2 : Int)) ≤ 9223372036854775807),(0 ≤ (k2 : Int) ∧ (k2 : Int) < (8 : Int)),(∀ w1,S w1 → w1.cell? ⟨hb,k2,none⟩ = some (.int .u32 ((rg (mixes (M.length / 64) M H8) k2 : Nat) : Int))),(0 ≤ (24 : Int) ∧ 24 ≤ 32),(0 ≤ (4 * (k2 : Int)) ∧ (4 * (k2 : Int)) < (32 : Int))]) ⟨om,om,(fun w1 h => h.ocell 2 rfl (wv_get (n := 8) (i := k2) (mixes_len (M.length / 64) M (hs := H8) rfl) om)),om,om,trivial⟩ ?_
         refine Le (Eff.store1 (b := d) (off := (4 * k2)) (v := .int .u8 ((((rg (mixes (M.length / 64) M H8) k2 : Nat) : Int) / 16777216) % 256)) rfl kr kr rfl kr 0 (cs := (bv (dgr (mixes (M.length / 64) M H8) k2))) (e := 35) kr (by first | (rw [dsz2 _ hk2]; omega) | (simp only [Array.size_setIfInBounds,dsz2 _ hk2]; omega))) ?_
         rintro ⟨⟩ -
         refine CfgL.done rfl ?_
         refine Cg (Γ' := [(24,[],.int .i64 (k2 : Int)),(23,[],.pointer (some ⟨d,0,none⟩)),(6,[],.slice (some ⟨hb,0,none⟩) 8 8),(2,[],.pointer (some ⟨rs,0,none⟩))]) ?_
         refine Cfg.begL rfl ?_
         refine Lp 10 [dZ,dZ,dZ,dZ,dZ,dZ,(0,false,some (.int .u32 ((rg (mixes (M.length / 64) M H8) k2 : Nat) : Int)))] (some [2,6,23,24,352,353]) (fun S => [((-9223372036854775808 : Int) ≤ (4 * (k2 : Int)) ∧ (4 * (k2 : Int)) ≤ 9223372036854775807),((-9223372036854775808 : Int) ≤ ((4 * (k2 : Int)) + 1) ∧ ((4 * (k2 : Int)) + 1) ≤ 9223372036854775807),(0 ≤ (k2 : Int) ∧ (k2 : Int) < (8 : Int)),(∀ w1,S w1 → w1.cell? ⟨hb,k2,none⟩ = some (.int .u32 ((rg (mixes (M.length / 64) M H8) k2 : Nat) : Int))),(0 ≤ (16 : Int) ∧ 16 ≤ 32),(0 ≤ ((4 * (k2 : Int)) + 1) ∧ ((4 * (k2 : Int)) + 1) < (32 : Int))]) ⟨om,om,om,(fun w1 h => h.ocell 2 rfl (wv_get (n := 8) (i := k2) (mixes_len (M.length / 64) M (hs := H8) rfl) om)),om,om,trivial⟩ ?_
         refine Le (Eff.store1 (b := d) (off := ((4 * k2) + 1)) (v := .int .u8 ((((rg (mixes (M.length / 64) M H8) k2 : Nat) : Int) / 65536) % 256)) rfl kr kr rfl kr 0 (cs := ((bv (dgr (mixes (M.length / 64) M H8) k2)).setIfInBounds (4 * k2) (.int .u8 ((((rg (mixes (M.length / 64) M H8) k2 : Nat) : Int) / 16777216) % 256)))) (e := 35) kr (by first | (rw [dsz2 _ hk2]; omega) | (simp only [Array.size_setIfInBounds,dsz2 _ hk2]; omega))) ?_
         rintro ⟨⟩ -
         refine CfgL.done rfl ?_
         refine Cg (Γ' := [(24,[],.int .i64 (k2 : Int)),(23,[],.pointer (some ⟨d,0,none⟩)),(6,[],.slice (some ⟨hb,0,none⟩) 8 8),(2,[],.pointer (some ⟨rs,0,none⟩))]) ?_
         refine Cfg.begL rfl ?_
         refine Lp 10 [dZ,dZ,dZ,dZ,dZ,dZ,(0,false,some (.int .u32 ((rg (mixes (M.length / 64) M H8) k2 : Nat) : Int)))] (some [2,6,23,24,362,363]) (fun S => [((-9223372036854775808 : Int) ≤ (4 * (k2 : Int)) ∧ (4 * (k2 : Int)) ≤ 9223372036854775807),((-9223372036854775808 : Int) ≤ ((4 * (k2 : Int)) + 2) ∧ ((4 * (k2 : Int)) + 2) ≤ 9223372036854775807),(0 ≤ (k2 : Int) ∧ (k2 : Int) < (8 : Int)),(∀ w1,S w1 → w1.cell? ⟨hb,k2,none⟩ = some (.int .u32 ((rg (mixes (M.length / 64) M H8) k2 : Nat) : Int))),(0 ≤ (8 : Int) ∧ 8 ≤ 32),(0 ≤ ((4 * (k2 : Int)) + 2) ∧ ((4 * (k2 : Int)) + 2) < (32 : Int))]) ⟨om,om,om,(fun w1 h => h.ocell 2 rfl (wv_get (n := 8) (i := k2) (mixes_len (M.length / 64) M (hs := H8) rfl) om)),om,om,trivial⟩ ?_
         refine Le (Eff.store1 (b := d) (off := ((4 * k2) + 2)) (v := .int .u8 ((((rg (mixes (M.length / 64) M H8) k2 : Nat) : Int) / 256) % 256)) rfl kr kr rfl kr 0 (cs := (((bv (dgr (mixes (M.length / 64) M H8) k2)).setIfInBounds (4 * k2) (.int .u8 ((((rg (mixes (M.length / 64) M H8) k2 : Nat) : Int) / 16777216) % 256))).setIfInBounds ((4 * k2) + 1) (.int .u8 ((((rg (mixes (M.length / 64) M H8) k2 : Nat) : Int) / 65536) % 256)))) (e := 35) kr (by first | (rw [dsz2 _ hk2]; omega) | (simp only [Array.size_setIfInBounds,dsz2 _ hk2]; omega))) ?_
         rintro ⟨⟩ -
         refine CfgL.done rfl ?_
         refine Cg (Γ' := [(24,[],.int .i64 (k2 : Int)),(23,[],.pointer (some ⟨d,0,none⟩)),(6,[],.slice (some ⟨hb,0,none⟩) 8 8),(2,[],.pointer (some ⟨rs,0,none⟩))]) ?_
         refine Cfg.begL rfl ?_
         refine Lp 9 [dZ,dZ,dZ,dZ,dZ,dZ,(0,false,some (.int .u32 ((rg (mixes (M.length / 64) M H8) k2 : Nat) : Int)))] (some [2,6,23,24,371,372]) (fun S => [((-9223372036854775808 : Int) ≤ (4 * (k2 : Int)) ∧ (4 * (k2 : Int)) ≤ 9223372036854775807),((-9223372036854775808 : Int) ≤ ((4 * (k2 : Int)) + 3) ∧ ((4 * (k2 : Int)) + 3) ≤ 9223372036854775807),(0 ≤ (k2 : Int) ∧ (k2 : Int) < (8 : Int)),(∀ w1,S w1 → w1.cell? ⟨hb,k2,none⟩ = some (.int .u32 ((rg (mixes (M.length / 64) M H8) k2 : Nat) : Int))),(0 ≤ ((4 * (k2 : Int)) + 3) ∧ ((4 * (k2 : Int)) + 3) < (32 : Int))]) ⟨om,om,om,(fun w1 h => h.ocell 2 rfl (wv_get (n := 8) (i := k2) (mixes_len (M.length / 64) M (hs := H8) rfl) om)),om,trivial⟩ ?_
         refine Le (Eff.store1 (b := d) (off := ((4 * k2) + 3)) (v := .int .u8 (((rg (mixes (M.length / 64) M H8) k2 : Nat) : Int) % 256)) rfl kr kr rfl kr 0 (cs := ((((bv (dgr (mixes (M.length / 64) M H8) k2)).setIfInBounds (4 * k2) (.int .u8 ((((rg (mixes (M.length / 64) M H8) k2 : Nat) : Int) / 16777216) % 256))).setIfInBounds ((4 * k2) + 1) (.int .u8 ((((rg (mixes (M.length / 64) M H8) k2 : Nat) : Int) / 65536) % 256))).setIfInBounds ((4 * k2) + 2) (.int .u8 ((((rg (mixes (M.length / 64) M H8) k2 : Nat) : Int) / 256) % 256)))) (e := 35) kr (by first | (rw [dsz2 _ hk2]; omega) | (simp only [Array.size_setIfInBounds,dsz2 _ hk2]; omega))) ?_
         rintro ⟨⟩ -
         refine CfgL.done rfl ?_
         refine Cg (Γ' := [(24,[],.int .i64 (k2 : Int)),(23,[],.pointer (some ⟨d,0,none⟩)),(6,[],.slice (some ⟨hb,0,none⟩) 8 8),(2,[],.pointer (some ⟨rs,0,none⟩))]) ?_
         refine Rg [2,6,23,24] [] (fun _ => [((-9223372036854775808 : Int) ≤ ((k2 : Int) + 1) ∧ ((k2 : Int) + 1) ≤ 9223372036854775807)]) ⟨om,trivial⟩ ?_
         refine Cfg.setO (congrArg (fun (xq : Array Value) => (([(d,.cells xq 35 (0,0)),(cb,.cells (wv Kc) 102 (0,0)),(hb,.cells (wv (mixes (M.length / 64) M H8)) 102 (0,0)),(rs,.cells (bv (List.replicate 32 0)) 35 (0,0))] ++ (MO.o 5 ((bv M).toList) mo ++ [])) : List (Nat × Obj))) (show _ = (bv (dgr (mixes (M.length / 64) M H8) (k2 + 1))) from dgr_step _ om rfl rfl rfl rfl)) ?_
         refine Cfg.again rfl (k2 + 1) (by show k2 + 1 ≤ 8; omega) (by show 8 - (k2 + 1) < 8 - k2; omega) (Conv.mk kr) (.cons_cons _ (.cons_cons _ (.cons_cons _ (.cons_cons _ (List.Sublist.refl _)))))
        ·have c8 := (of_decide_eq_false c8r)
         refine Cfg.begL rfl ?_
         refine Lp 1 [(0,false,some (.agg (bv (dgr (mixes (M.length / 64) M H8) k2))))] (some [2,373]) (fun S => [(∀ w1,S w1 → (loadVar 35 ⟨d,0,none⟩).run Tryz.prog w1 = .ok (.agg (bv (dgr (mixes (M.length / 64) M H8) k2))) w1)]) ⟨(fun w1 h => h.oload 0 rfl Tryz.underlying35 rfl (n := 32) kr (dsz2 _ hk2)),trivial⟩ ?_
         refine Le (Eff.storeN (b := rs) (off := 0) (vs := (bv (dgr (mixes (M.length / 64) M H8) k2))) (n := 32) rfl kr kr kr (dsz2 _ hk2) (all_bv _) 3 (cs := (bv (List.replicate 32 0))) (e := 35) kr (by rw [zsz]; omega)) ?_
         rintro ⟨⟩ -
         refine CfgL.setO (congrArg (fun (xq : Array Value) => (([(d,.cells (bv (dgr (mixes (M.length / 64) M H8) k2)) 35 (0,0)),(cb,.cells (wv Kc) 102 (0,0)),(hb,.cells (wv (mixes (M.length / 64) M H8)) 102 (0,0)),(rs,.cells xq 35 (0,0))] ++ (MO.o 5 ((bv M).toList) mo ++ [])) : List (Nat × Obj))) (show _ = (bv (dgr (mixes (M.length / 64) M H8) k2)) from spl_all ((dsz2 _ hk2).trans zsz.symm))) ?_
         refine CfgL.done rfl ?_
         refine Cg (Γ' := [(2,[],.pointer (some ⟨rs,0,none⟩))]) ?_
         refine Cfg.ret rfl (rs := [.cell 2 35]) rfl [.agg (bv (dgr (mixes (M.length / 64) M H8) k2))] ⟨⟨_,by kernel_rfl,(fun w1 h => h.oload 3 rfl Tryz.underlying35 rfl (n := 32) kr (dsz2 _ hk2))⟩,trivial⟩ (fun w1 hp => ?_)
         obtain rfl : k2 = 8 := by omega
         have hsd : shaD s.data.toList = dgr (mixes (M.length / 64) M H8) 8 := by
          have hbq : s.data.toList.length = s.size := ba_len s
          have hlm : M.length = s.data.toList.length + (tailN s.data.toList.length).length := by rw [hM,List.length_append]; unfold un8; rw [List.length_map,hbq]
          have := shaD_mixes s.data.toList (k := M.length / 64) om
          rw [hbq,← hM] at this
          exact this
         rw [hsd]
         exact ⟨rfl,hp.ext⟩
end Go.Proofs.YtinhinjpfmdfiaaGreatDoor
namespace Go.Proofs.YtinhinjpfmdfiaaGreatDoor
open K
set_option linter.unusedVariables false
def chk (o : OM) : Int :=
 if o.k = 99 then if 2 < o.c.ps.length then 6 else if o.c.ps.length = 2 ∧ o.c.ps.getD 0 [] = o.c.ps.getD 1 [] then 17 else if 200 < o.c.t.size then 5 else 0
 else if 200 < o.t.t.size then 5 else 0
theorem chk_com {o : OM} (h : chk o = 0) (hk : o.k = 99) : o.c.ps.length ≤ 2 ∧ o.c.t.size ≤ 200 := by
 unfold chk at h
 rw [if_pos hk] at h
 split at h
 ·omega
 ·split at h
  ·omega
  ·split at h <;> omega
theorem chk_tag {o : OM} (h : chk o = 0) (hk : ¬ o.k = 99) : o.t.t.size ≤ 200 := by
 unfold chk at h
 rw [if_neg hk] at h
 split at h <;> omega
theorem chk_many {o : OM} (hk : (o.k : Int) = 99) (h : (o.c.ps.length : Int) > 2) : chk o = 6 := by
 unfold chk; rw [if_pos om,if_pos om]
theorem chk_same {o : OM} (hk : (o.k : Int) = 99) (h : o.c.ps.length = 2) (he : (o.c.ps.getD 0 [] == o.c.ps.getD 1 []) = true) : chk o = 17 := by
 unfold chk; rw [if_pos om,if_neg om,if_pos ⟨h,beq_iff_eq.1 he⟩]
theorem chk_long {o : OM} (hk : (o.k : Int) = 99) (h : ¬ (o.c.ps.length : Int) > 2) (hs : ¬ (o.c.ps.length = 2 ∧ o.c.ps.getD 0 [] = o.c.ps.getD 1 [])) (ht : (o.c.t.size : Int) > 200) : chk o = 5 := by
 unfold chk; rw [if_pos om,if_neg om,if_neg hs,if_pos om]
theorem chk_fine {o : OM} (hk : (o.k : Int) = 99) (h : ¬ (o.c.ps.length : Int) > 2) (hs : ¬ (o.c.ps.length = 2 ∧ o.c.ps.getD 0 [] = o.c.ps.getD 1 [])) (ht : ¬ (o.c.t.size : Int) > 200) : chk o = 0 := by
 unfold chk; rw [if_pos om,if_neg om,if_neg hs,if_neg om]
theorem chk_tlong {o : OM} (hk : (o.k : Int) = 116) (ht : (o.t.t.size : Int) > 200) : chk o = 5 := by
 unfold chk; rw [if_neg om,if_pos om]
theorem chk_tfine {o : OM} (hk : (o.k : Int) = 116) (ht : ¬ (o.t.t.size : Int) > 200) : chk o = 0 := by
 unfold chk; rw [if_neg om,if_neg om]
def psS (b : ByteArray) (ps : List (List UInt8)) : Nat → ByteArray
 | 0 => b
 | i + 1 => psS b ps i ++ tx (ps.getD i [])
theorem psS_size {b : ByteArray} {ps : List (List UInt8)} (h : D32 ps) : ∀ i,i ≤ ps.length → (psS b ps i).size = b.size + 32 * i
 | 0,_ => rfl
 | i + 1,hi => by
  have h1 : (tx (ps.getD i [])).size = 32 := by rw [tx_size]; exact h.at om
  rw [psS,ByteArray.size_append,psS_size h i om,h1]
  omega
def kS (o : OM) : ByteArray := tx [UInt8.ofNat ((o.k : Int)).toNat]
def obS (o : OM) : ByteArray :=
 if chk o ≠ 0 then ByteArray.empty
 else if o.k = 99 then (psS ((kS o ++ tx o.c.d) ++ beS o.c.ps.length 4) o.c.ps o.c.ps.length ++ beS o.c.n 8) ++ tx (text4 o.c.t)
 else (kS o ++ tx o.t.d) ++ tx (text4 o.t.t)
theorem obS_no {o : OM} (h : chk o ≠ 0) : obS o = ByteArray.empty := if_pos h
theorem obS_com {o : OM} (h : ¬ chk o ≠ 0) (hk : (o.k : Int) = 99) : obS o = (psS ((kS o ++ tx o.c.d) ++ beS o.c.ps.length 4) o.c.ps o.c.ps.length ++ beS o.c.n 8) ++ tx (text4 o.c.t) := by
 unfold obS; rw [if_neg h,if_pos om]
theorem obS_tag {o : OM} (h : ¬ chk o ≠ 0) (hk : (o.k : Int) = 116) : obS o = (kS o ++ tx o.t.d) ++ tx (text4 o.t.t) := by
 unfold obS; rw [if_neg h,if_neg om]
theorem obS_size {Rl : List (Nat × Obj)} {o : OM} (hO : InO Rl o) : (obS o).size ≤ 100000000 := by
 unfold obS
 split
 ·exact Nat.zero_le _
 ·rename_i h
  have h := Decidable.not_not.1 h
  have hk1 : (kS o).size = 1 := by rw [kS,tx_size]; rfl
  split
  ·rename_i hk9
   obtain ⟨h1,h2⟩ := chk_com h hk9
   simp only [ByteArray.size_append,beS_size,tx_size,psS_size hO.c.w _ (Nat.le_refl _),hO.c.d,text4_len,hk1]
   omega
  ·rename_i hk9
   have h2 := chk_tag h hk9
   simp only [ByteArray.size_append,tx_size,hO.t,text4_len,hk1]
   omega
set_option maxRecDepth 100000 in
set_option maxHeartbeats 4000000 in
theorem rChk (o : OM) (Rl : List (Nat × Obj)) (w : World) (hO : InO Rl o) (hR : Has w Rl) (hk : o.k = 99 ∨ o.k = 116) :
  Calls Tryz.prog 13 #[.agg (oc o).toArray] w fun e w' => e = .returned (.int .i64 (chk o)) ∧ Ext [] w w' := by
 have hoc := hO.c.d
 have hot := hO.t
 refine enter (vs := [.agg (oc o).toArray]) [] Rl [] Tryz.func13 rfl kr (HP.ofHas hR) ?_
 refine Cfg.begL rfl ?_
 refine Le (Eff.box (v := .agg (oc o).toArray) rfl kr) ?_
 rintro bx ⟨hbx,nbx⟩
 refine Lp 1 [] (some [1]) n0 trivial ?_
 refine CfgL.done rfl ?_
 refine Rg [1,6] [dZ,(0,false,some (.int .u8 (o.k : Int)))] (fun S => [(∀ w1,S w1 → w1.cell? ⟨bx,0,none⟩ = some (.int .u8 (o.k : Int)))]) ⟨(fun w1 h => h.ocell 0 rfl (by rw [List.getElem?_toArray]; exact rfl)),trivial⟩ ?_
 refine Cfg.condF rfl (b := ((o.k : Int) == (109 : Int))) kr (by rcases hk with h | h <;> simp [h]) ?_
 refine Rg [1,12] [dZ,(0,false,some (.int .u8 (o.k : Int)))] (fun S => [(∀ w1,S w1 → w1.cell? ⟨bx,0,none⟩ = some (.int .u8 (o.k : Int)))]) ⟨(fun w1 h => h.ocell 0 rfl (by rw [List.getElem?_toArray]; exact rfl)),trivial⟩ ?_
 refine Cfg.cond rfl (b := ((o.k : Int) == (99 : Int))) kr (fun c2r => ?_) (fun c2r => ?_)
 ·have c2 := (beq_iff_eq.1 c2r)
  refine Rg [1,3] [dZ,dZ,(0,false,some (.slice o.c.pa o.c.ps.length o.c.pc))] (fun S => [(∀ w1,S w1 → w1.cell? ⟨bx,36,none⟩ = some (.slice o.c.pa o.c.ps.length o.c.pc))]) ⟨(fun w1 h => h.ocell 0 rfl (by rw [List.getElem?_toArray]; exact (oc_com (j := 32) (cc_p hoc)))),trivial⟩ ?_
  refine Rg [1,3,18] [] n0 trivial ?_
  refine Cfg.cond rfl (b := (decide ((o.c.ps.length : Int) > (2 : Int)))) kr (fun c3r => ?_) (fun c3r => ?_)
  ·have c3 := (of_decide_eq_true c3r)
   refine Rg [2] [] n0 trivial ?_
   refine Cfg.ret rfl (rs := [.tmp 2]) rfl [.int .i64 6] ⟨kr,trivial⟩ (fun w1 hp => ?_)
   exact ⟨by rw [chk_many c2 c3]; rfl,hp.ext⟩
  ·have c3 := (of_decide_eq_false c3r)
   by_cases hl2 : o.c.ps.length = 2
   ·
    obtain ⟨sa,offa,csa,tea,frea,hpa,hma,hca⟩ := hO.c.p om
    refine Cg (Γ' := [(18,[],.bool (decide ((o.c.ps.length : Int) > (2 : Int)))),(3,[],.slice o.c.pa o.c.ps.length o.c.pc),(1,[],.pointer (some ⟨bx,0,none⟩))]) ?_
    refine Cfg.setG (congrArg (fun (xq : Value) => ([(18,[],.bool (decide ((o.c.ps.length : Int) > (2 : Int)))),(3,[],xq),(1,[],.pointer (some ⟨bx,0,none⟩))] : Env)) (show _ = .slice (some ⟨sa,offa,none⟩) o.c.ps.length o.c.pc from by rw [hpa])) ?_
    refine Cfg.begA rfl kr [(bx,.cells ((oc o).toArray) 59 (0,0))] ?_
    refine Ap [0,1,2,3] [] (some [1,3,22]) #[true,true,true,true,false,false,false,false,false,false,false,false] (.cons_cons _ .slnil) 8 n0 trivial ?_
    refine CfgA.known 22 (b := ((o.c.ps.length : Int) == (2 : Int))) kr true (by simp [hl2]) ?_
    refine Ap [4,5,7,8] [(1,false,none),(1,false,none),(1,false,none),(1,false,none)] (some [1,22,24,27]) #[true,true,true,true,true,true,false,true,true,false,false,false] (.cons_cons _ .slnil) 4 (fun _ => [((.bool true : Value) = .bool true),((.bool true : Value) = .bool true),(0 ≤ (0 : Int) ∧ (0 : Int) < (o.c.ps.length : Int)),((.bool true : Value) = .bool true),((.bool true : Value) = .bool true),(0 ≤ (1 : Int) ∧ (1 : Int) < (o.c.ps.length : Int))]) ⟨rfl,rfl,om,rfl,rfl,om,trivial⟩ ?_
    refine CfgA.two 6 9 kr (fuel' := 3) rfl ?_ ?_
    ·
     refine Ie rfl  (Eff.quiet (raw := false) (orc := some (.agg (bv (o.c.ps.getD 0 [])))) (v := .agg (bv (o.c.ps.getD 0 []))) (nd := (fun S => [(∀ w1,S w1 → (loadVar 35 ⟨sa,(addO offa (0 * 32)),none⟩).run Tryz.prog w1 = .ok (.agg (bv (o.c.ps.getD 0 []))) w1)])) (fun _ => kr) ⟨(fun w1 h => load_bytes Tryz.underlying35 rfl kr (hO.c.w.at om) (fun j hj => by simp only [addO_eq]; exact (cell_cells (h.ro _ hma)).trans (fl_cell [] (fun x hx => dgc_len (hO.c.w x hx)) hca (i := 0) om (dg_byte (hO.c.w.at om) hj)))),trivial⟩ kr) (fun _ _ => (.cons_cons _ .slnil)) ?_
     rintro ⟨⟩ -
     refine Ae 9 rfl 2  (Eff.quiet (raw := false) (orc := some (.agg (bv (o.c.ps.getD 1 [])))) (v := .agg (bv (o.c.ps.getD 1 []))) (nd := (fun S => [(∀ w1,S w1 → (loadVar 35 ⟨sa,(addO offa (1 * 32)),none⟩).run Tryz.prog w1 = .ok (.agg (bv (o.c.ps.getD 1 []))) w1)])) (fun _ => kr) ⟨(fun w1 h => load_bytes Tryz.underlying35 rfl kr (hO.c.w.at om) (fun j hj => by simp only [addO_eq]; exact (cell_cells (h.ro _ hma)).trans (fl_cell [] (fun x hx => dgc_len (hO.c.w x hx)) hca (i := 1) om (dg_byte (hO.c.w.at om) hj)))),trivial⟩ kr) (fun _ _ => (.cons_cons _ .slnil)) ?_
     rintro ⟨⟩ -
     refine Ap [10,11] [(1,false,some (.bool ((o.c.ps.getD 0 []) == (o.c.ps.getD 1 []))))] (some [1,30]) #[true,true,true,true,true,true,true,true,true,true,true,true] (.cons_cons _ .slnil) 0 (fun S => [((.bool true : Value) = .bool true),(∀ w1,S w1 → (Op.equal 35 (.agg (bv (o.c.ps.getD 0 []))) (.agg (bv (o.c.ps.getD 1 [])))).run Tryz.prog w1 = .ok ((o.c.ps.getD 0 []) == (o.c.ps.getD 1 [])) w1)]) ⟨rfl,(fun _ _ => equal_bv Tryz.underlying35 Tryz.underlying5 kr (hO.c.w.at om) (hO.c.w.at om)),trivial⟩ ?_
     refine CfgA.done kr ?_
     refine Cfg.cond rfl (b := ((o.c.ps.getD 0 []) == (o.c.ps.getD 1 []))) kr (fun c5r => ?_) (fun c5r => ?_)
     ·have c5 : (((o.c.ps.getD 0 []) == (o.c.ps.getD 1 [])) = true) := c5r
      refine Rg [2] [] n0 trivial ?_
      refine Cfg.ret rfl (rs := [.tmp 2]) rfl [.int .i64 17] ⟨kr,trivial⟩ (fun w1 hp => ?_)
      exact ⟨by rw [chk_same c2 hl2 c5]; rfl,hp.ext⟩
     ·have c5 : (((o.c.ps.getD 0 []) == (o.c.ps.getD 1 [])) = false) := c5r
      refine Rg [35] [dZ,dZ,(0,false,some (.string o.c.t))] (fun S => [(∀ w1,S w1 → w1.cell? ⟨bx,38,none⟩ = some (.string o.c.t))]) ⟨(fun w1 h => h.ocell 0 rfl (by rw [List.getElem?_toArray]; exact (oc_com (j := 34) (cc_t hoc)))),trivial⟩ ?_
      refine Cfg.cond rfl (b := (decide ((o.c.t.size : Int) > (200 : Int)))) kr (fun c6r => ?_) (fun c6r => ?_)
      ·have c6 := (of_decide_eq_true c6r)
       refine Rg [2] [] n0 trivial ?_
       refine Cfg.ret rfl (rs := [.tmp 2]) rfl [.int .i64 5] ⟨kr,trivial⟩ (fun w1 hp => ?_)
       exact ⟨by rw [chk_long c2 c3 (fun h => absurd h.2 (beq_eq_false_iff_ne.1 c5)) c6]; rfl,hp.ext⟩
      ·have c6 := (of_decide_eq_false c6r)
       refine Rg [2] [] n0 trivial ?_
       refine Cfg.ret rfl (rs := [.tmp 2]) rfl [.int .i64 0] ⟨kr,trivial⟩ (fun w1 hp => ?_)
       exact ⟨by rw [chk_fine c2 c3 (fun h => absurd h.2 (beq_eq_false_iff_ne.1 c5)) c6]; rfl,hp.ext⟩
    ·
     refine Ie rfl  (Eff.quiet (raw := false) (orc := some (.agg (bv (o.c.ps.getD 1 [])))) (v := .agg (bv (o.c.ps.getD 1 []))) (nd := (fun S => [(∀ w1,S w1 → (loadVar 35 ⟨sa,(addO offa (1 * 32)),none⟩).run Tryz.prog w1 = .ok (.agg (bv (o.c.ps.getD 1 []))) w1)])) (fun _ => kr) ⟨(fun w1 h => load_bytes Tryz.underlying35 rfl kr (hO.c.w.at om) (fun j hj => by simp only [addO_eq]; exact (cell_cells (h.ro _ hma)).trans (fl_cell [] (fun x hx => dgc_len (hO.c.w x hx)) hca (i := 1) om (dg_byte (hO.c.w.at om) hj)))),trivial⟩ kr) (fun _ _ => (.cons_cons _ .slnil)) ?_
     rintro ⟨⟩ -
     refine Ae 6 rfl 2  (Eff.quiet (raw := false) (orc := some (.agg (bv (o.c.ps.getD 0 [])))) (v := .agg (bv (o.c.ps.getD 0 []))) (nd := (fun S => [(∀ w1,S w1 → (loadVar 35 ⟨sa,(addO offa (0 * 32)),none⟩).run Tryz.prog w1 = .ok (.agg (bv (o.c.ps.getD 0 []))) w1)])) (fun _ => kr) ⟨(fun w1 h => load_bytes Tryz.underlying35 rfl kr (hO.c.w.at om) (fun j hj => by simp only [addO_eq]; exact (cell_cells (h.ro _ hma)).trans (fl_cell [] (fun x hx => dgc_len (hO.c.w x hx)) hca (i := 0) om (dg_byte (hO.c.w.at om) hj)))),trivial⟩ kr) (fun _ _ => (.cons_cons _ .slnil)) ?_
     rintro ⟨⟩ -
     refine CfgA.pure [10,11] [(1,false,some (.bool ((o.c.ps.getD 0 []) == (o.c.ps.getD 1 []))))] (some [1,30]) (l' := tF 12 0) kr kr (.cons_cons _ .slnil) 0 rfl (Γ' := [(30,[],.bool ((o.c.ps.getD 0 []) == (o.c.ps.getD 1 []))),(1,[],.pointer (some ⟨bx,0,none⟩))]) (nd := (fun S => [((.bool true : Value) = .bool true),(∀ w1,S w1 → (Op.equal 35 (.agg (bv (o.c.ps.getD 0 []))) (.agg (bv (o.c.ps.getD 1 [])))).run Tryz.prog w1 = .ok ((o.c.ps.getD 0 []) == (o.c.ps.getD 1 [])) w1)])) (fun _ => kr) ⟨rfl,(fun _ _ => equal_bv Tryz.underlying35 Tryz.underlying5 kr (hO.c.w.at om) (hO.c.w.at om)),trivial⟩ ?_
     refine CfgA.done kr ?_
     refine Cfg.cond rfl (b := ((o.c.ps.getD 0 []) == (o.c.ps.getD 1 []))) kr (fun c7r => ?_) (fun c7r => ?_)
     ·have c7 : (((o.c.ps.getD 0 []) == (o.c.ps.getD 1 [])) = true) := c7r
      refine Rg [2] [] n0 trivial ?_
      refine Cfg.ret rfl (rs := [.tmp 2]) rfl [.int .i64 17] ⟨kr,trivial⟩ (fun w1 hp => ?_)
      exact ⟨by rw [chk_same c2 hl2 c7]; rfl,hp.ext⟩
     ·have c7 : (((o.c.ps.getD 0 []) == (o.c.ps.getD 1 [])) = false) := c7r
      refine Rg [35] [dZ,dZ,(0,false,some (.string o.c.t))] (fun S => [(∀ w1,S w1 → w1.cell? ⟨bx,38,none⟩ = some (.string o.c.t))]) ⟨(fun w1 h => h.ocell 0 rfl (by rw [List.getElem?_toArray]; exact (oc_com (j := 34) (cc_t hoc)))),trivial⟩ ?_
      refine Cfg.cond rfl (b := (decide ((o.c.t.size : Int) > (200 : Int)))) kr (fun c8r => ?_) (fun c8r => ?_)
      ·have c8 := (of_decide_eq_true c8r)
       refine Rg [2] [] n0 trivial ?_
       refine Cfg.ret rfl (rs := [.tmp 2]) rfl [.int .i64 5] ⟨kr,trivial⟩ (fun w1 hp => ?_)
       exact ⟨by rw [chk_long c2 c3 (fun h => absurd h.2 (beq_eq_false_iff_ne.1 c7)) c8]; rfl,hp.ext⟩
      ·have c8 := (of_decide_eq_false c8r)
       refine Rg [2] [] n0 trivial ?_
       refine Cfg.ret rfl (rs := [.tmp 2]) rfl [.int .i64 0] ⟨kr,trivial⟩ (fun w1 hp => ?_)
       exact ⟨by rw [chk_fine c2 c3 (fun h => absurd h.2 (beq_eq_false_iff_ne.1 c7)) c8]; rfl,hp.ext⟩
   ·
    refine Cfg.begA rfl kr [(bx,.cells ((oc o).toArray) 59 (0,0))] ?_
    refine Ap [0,1,2,3] [] (some [1,3,22]) #[true,true,true,true,false,false,false,false,false,false,false,false] (.cons_cons _ .slnil) 8 n0 trivial ?_
    refine CfgA.known 22 (b := ((o.c.ps.length : Int) == (2 : Int))) kr false (by rw [beq_eq_false_iff_ne]; omega) ?_
    refine Ap [4,5,6,7,8,9,10,11] [(2,false,none),(2,false,none),(2,false,none),(2,false,none),(2,false,none),(2,false,none),(2,false,none)] (some [1,30]) #[true,true,true,true,true,true,true,true,true,true,true,true] (.cons_cons _ .slnil) 0 (fun _ => [((.bool false : Value) ≠ .bool true),((.bool false : Value) ≠ .bool true),((.bool false : Value) ≠ .bool true),((.bool false : Value) ≠ .bool true),((.bool false : Value) ≠ .bool true),((.bool false : Value) ≠ .bool true),((.bool false : Value) ≠ .bool true)]) ⟨(by simp),(by simp),(by simp),(by simp),(by simp),(by simp),(by simp),trivial⟩ ?_
    refine CfgA.done kr ?_
    refine Cfg.condF rfl (b := false) kr rfl ?_
    refine Rg [35] [dZ,dZ,(0,false,some (.string o.c.t))] (fun S => [(∀ w1,S w1 → w1.cell? ⟨bx,38,none⟩ = some (.string o.c.t))]) ⟨(fun w1 h => h.ocell 0 rfl (by rw [List.getElem?_toArray]; exact (oc_com (j := 34) (cc_t hoc)))),trivial⟩ ?_
    refine Cfg.cond rfl (b := (decide ((o.c.t.size : Int) > (200 : Int)))) kr (fun c11r => ?_) (fun c11r => ?_)
    ·have c11 := (of_decide_eq_true c11r)
     refine Cfg.reg rfl [2] [] (Γ' := [(2,[],.int .i64 5)]) (nd := (fun _ => [])) (fun _ => kr) trivial ?_
     refine Cfg.ret rfl (rs := [.tmp 2]) rfl [.int .i64 5] ⟨kr,trivial⟩ (fun w1 hp => ?_)
     exact ⟨by rw [chk_long c2 c3 (fun h => hl2 h.1) c11]; rfl,hp.ext⟩
    ·have c11 := (of_decide_eq_false c11r)
     refine Rg [2] [] n0 trivial ?_
     refine Cfg.ret rfl (rs := [.tmp 2]) rfl [.int .i64 0] ⟨kr,trivial⟩ (fun w1 hp => ?_)
     exact ⟨by rw [chk_fine c2 c3 (fun h => hl2 h.1) c11]; rfl,hp.ext⟩
 ·have c2 := (beq_eq_false_iff_ne.1 c2r)
  refine Rg [1,38] [dZ,(0,false,some (.int .u8 (o.k : Int)))] (fun S => [(∀ w1,S w1 → w1.cell? ⟨bx,0,none⟩ = some (.int .u8 (o.k : Int)))]) ⟨(fun w1 h => h.ocell 0 rfl (by rw [List.getElem?_toArray]; exact rfl)),trivial⟩ ?_
  refine Cfg.cond rfl (b := ((o.k : Int) == (116 : Int))) kr (fun c12r => ?_) (fun c12r => ?_)
  ·have c12 := (beq_iff_eq.1 c12r)
   refine Rg [43] [dZ,dZ,(0,false,some (.string o.t.t))] (fun S => [(∀ w1,S w1 → w1.cell? ⟨bx,71,none⟩ = some (.string o.t.t))]) ⟨(fun w1 h => h.ocell 0 rfl (by rw [List.getElem?_toArray]; exact (oc_tag hoc (j := 32) (tc_t hot)))),trivial⟩ ?_
   refine Cfg.cond rfl (b := (decide ((o.t.t.size : Int) > (200 : Int)))) kr (fun c13r => ?_) (fun c13r => ?_)
   ·have c13 := (of_decide_eq_true c13r)
    refine Rg [2] [] n0 trivial ?_
    refine Cfg.ret rfl (rs := [.tmp 2]) rfl [.int .i64 5] ⟨kr,trivial⟩ (fun w1 hp => ?_)
    exact ⟨by rw [chk_tlong om c13]; rfl,hp.ext⟩
   ·have c13 := (of_decide_eq_false c13r)
    refine Rg [2] [] n0 trivial ?_
    refine Cfg.ret rfl (rs := [.tmp 2]) rfl [.int .i64 0] ⟨kr,trivial⟩ (fun w1 hp => ?_)
    exact ⟨by rw [chk_tfine om c13]; rfl,hp.ext⟩
  ·have c12 := (beq_eq_false_iff_ne.1 c12r)
   refine Rg [2] [] n0 trivial ?_
   refine Cfg.ret rfl (rs := [.tmp 2]) rfl [.int .i64 11] ⟨kr,trivial⟩ (fun w1 hp => ?_)
   exfalso; rcases hk with h | h <;> omega
set_option maxRecDepth 100000 in
set_option maxHeartbeats 4000000 in
theorem rByt (o : OM) (Rl : List (Nat × Obj)) (w : World) (hO : InO Rl o) (hR : Has w Rl) (hk : o.k = 99 ∨ o.k = 116) (hn : o.c.n < 18446744073709551616) :
  Calls Tryz.prog 26 #[.agg (oc o).toArray] w fun e w' => e = .returned (.tuple #[.string (obS o),.int .i64 (chk o)]) ∧ Ext [] w w' := by
 have hoc := hO.c.d
 have hot := hO.t
 have hcn := hO.c.n
 refine enter (vs := [.agg (oc o).toArray]) [] Rl [] Tryz.func26 rfl kr (HP.ofHas hR) ?_
 refine Cfg.begL rfl ?_
 refine Le (Eff.box (v := .agg (oc o).toArray) rfl kr) ?_
 rintro bx ⟨hbx,nbx⟩
 refine Lp 2 [] (some [1]) n0 trivial ?_
 refine CfgL.done rfl ?_
 refine Cfg.begL rfl ?_
 refine Lp 1 [(0,false,some (.agg (oc o).toArray))] none (fun S => [(∀ w1,S w1 → (loadVar 59 ⟨bx,0,none⟩).run Tryz.prog w1 = .ok (.agg (oc o).toArray) w1)]) ⟨(fun w1 h => load_list Tryz.underlying59 rfl kr (oc_len hoc hot) (fun j v hj => h.ocell 0 rfl (by rw [List.getElem?_toArray]; exact (fun j v hj => by rw [Nat.zero_add]; exact hj) j v hj))),trivial⟩ ?_
 refine Le (Eff.callA (vs := [.agg (oc o).toArray]) (.int .i64 (chk o)) rfl Tryz.func13 rfl rfl kr (fun w1 h => rChk o Rl w1 hO (h.hasR (fun e he => he)) hk)) ?_
 rintro ⟨⟩ -
 refine Lp 1 [] (some [1,4]) n0 trivial ?_
 refine CfgL.done rfl ?_
 refine Rg [1,4,19] [] n0 trivial ?_
 refine Cfg.cond rfl (b := ((chk o) != (0 : Int))) kr (fun c1r => ?_) (fun c1r => ?_)
 ·have c1 := (bne_iff_ne.1 c1r)
  refine Rg [2,3] [] n0 trivial ?_
  refine Cfg.ret rfl (rs := [.tmp 2,.tmp 3]) rfl [.string ⟨#[]⟩,.int .i64 (chk o)] ⟨kr,by kernel_rfl,trivial⟩ (fun w1 hp => ?_)
  exact ⟨by rw [obS_no c1]; rfl,hp.ext⟩
 ·have c1 := (bne_eq_false_iff_eq.1 c1r)
  have hcb : ¬ ((o.k : Int) = 99) ∨ (o.c.ps.length ≤ 2 ∧ o.c.t.size ≤ 200) := by by_cases hq : (o.k : Int) = 99; exact .inr (chk_com om om); exact .inl hq
  have htb : (o.k : Int) = 99 ∨ o.t.t.size ≤ 200 := by by_cases hq : (o.k : Int) = 99; exact .inl hq; exact .inr (chk_tag om om)
  refine Cfg.begL rfl ?_
  refine Lp 2 [dZ,(0,false,some (.int .u8 (o.k : Int)))] (some [1,22]) (fun S => [(∀ w1,S w1 → w1.cell? ⟨bx,0,none⟩ = some (.int .u8 (o.k : Int)))]) ⟨(fun w1 h => h.ocell 0 rfl (by rw [List.getElem?_toArray]; exact rfl)),trivial⟩ ?_
  refine Le (Eff.buildSlice (e := 5) (cells := #[.int .u8 (o.k : Int)]) (parts := #[(0,.int .u8 (o.k : Int))]) rfl kr (fun _ => kr)) ?_
  rintro x2 ⟨hx2,nx2⟩
  refine Lp 2 [(0,false,some (.string (kS o)))] (some [1,5]) (fun S => [(∀ w1,S w1 → (Conv.bytesToString (.slice (some ⟨x2,0,none⟩) 1 1)).run Tryz.prog w1 = .ok (.string (kS o)) w1)]) ⟨(fun w1 h => str1 h 0 rfl (by rcases hk with h | h <;> omega)),trivial⟩ ?_
  refine CfgL.done rfl ?_
  refine Cfg.reg rfl [1,5,27] [dZ,(0,false,some (.int .u8 (o.k : Int)))] (Γ' := [(27,[],.bool ((o.k : Int) == (109 : Int))),(5,[],.string (kS o)),(1,[],.pointer (some ⟨bx,0,none⟩))]) (nd := (fun S => [(∀ w1,S w1 → w1.cell? ⟨bx,0,none⟩ = some (.int .u8 (o.k : Int)))])) (fun _ => kr) ⟨(fun w1 h => h.ocell 1 rfl (by rw [List.getElem?_toArray]; exact rfl)),trivial⟩ ?_
  refine Cfg.condF rfl (b := ((o.k : Int) == (109 : Int))) kr (by rcases hk with h | h <;> simp [h]) ?_
  refine Rg [1,5,117] [dZ,(0,false,some (.int .u8 (o.k : Int)))] (fun S => [(∀ w1,S w1 → w1.cell? ⟨bx,0,none⟩ = some (.int .u8 (o.k : Int)))]) ⟨(fun w1 h => h.ocell 1 rfl (by rw [List.getElem?_toArray]; exact rfl)),trivial⟩ ?_
  refine Cfg.cond rfl (b := ((o.k : Int) == (99 : Int))) kr (fun c3r => ?_) (fun c3r => ?_)
  ·have c3 := (beq_iff_eq.1 c3r)
   refine Cfg.begA rfl kr [(x2,.cells #[.int .u8 (o.k : Int)] 5 (0,0)),(bx,.cells ((oc o).toArray) 59 (0,0))] ?_
   refine Ap [0,1,2,3,6,7,8,9,10] [dZ,dZ,dZ,(0,false,some (.agg (bv o.c.d))),dZ,dZ,(0,false,some (.slice o.c.pa o.c.ps.length o.c.pc))] (some [1,5,118,121,128]) #[true,true,true,true,false,false,true,true,true,true,true,false,false,false] (.cons_cons _ (.cons_cons _ .slnil)) 5 (fun S => [(∀ w1,S w1 → (loadVar 35 ⟨bx,4,none⟩).run Tryz.prog w1 = .ok (.agg (bv o.c.d)) w1),(∀ w1,S w1 → w1.cell? ⟨bx,36,none⟩ = some (.slice o.c.pa o.c.ps.length o.c.pc))]) ⟨(fun w1 h => load_list (vs := dgc o.c.d) Tryz.underlying35 rfl kr (dgc_len hoc) (fun j v hj => h.ocell 1 rfl (by rw [List.getElem?_toArray]; exact (fun j v hj => oc_com (cc_d hj)) j v hj))),(fun w1 h => h.ocell 1 rfl (by rw [List.getElem?_toArray]; exact (oc_com (j := 32) (cc_p hoc)))),trivial⟩ ?_
   refine Ae 4 rfl 4  (Eff.callA (vs := [.agg (bv o.c.d)]) (.string (tx o.c.d)) rfl Tryz.func41 rfl rfl kr (fun w1 _ => rDigest o.c.d w1 hoc)) (fun _ _ => (.cons_cons _ (.cons_cons _ .slnil))) ?_
   rintro ⟨⟩ -
   refine Ap [5] [] (some [1,5,123,128]) #[true,true,true,true,true,true,true,true,true,true,true,false,false,false] (.cons_cons _ (.cons_cons _ .slnil)) 3 (fun _ => [((kS o).size + (tx o.c.d).size ≤ 9223372036854775807)]) ⟨(by (repeat rw [ByteArray.size_append]); (repeat rw [ByteArray.size_append]); (repeat rw [beS_size]); (try unfold kS); (repeat rw [tx_size]); (repeat rw [hoc]); (repeat rw [hot]); (repeat rw [List.length_cons]); (repeat rw [List.length_nil]); (repeat rw [text4_len]); omega),trivial⟩ ?_
   refine Ae 11 rfl 2  (Eff.callA (vs := [.int .u64 ((o.c.ps.length : Int) % 18446744073709551616),.int .i64 4]) (.string (beS o.c.ps.length 4)) rfl Tryz.func40 rfl rfl kr (fun w1 _ => by rw [show ((o.c.ps.length : Int) % 18446744073709551616) = (o.c.ps.length : Int) by omega]; exact rNum o.c.ps.length 4 w1 om (by decide))) (fun _ _ => (.cons_cons _ (.cons_cons _ .slnil))) ?_
   rintro ⟨⟩ -
   refine Ap [12,13] [] (some [1,5]) #[true,true,true,true,true,true,true,true,true,true,true,true,true,true] (.cons_cons _ (.cons_cons _ .slnil)) 0 (fun _ => [(((kS o) ++ (tx o.c.d)).size + (beS o.c.ps.length 4).size ≤ 9223372036854775807)]) ⟨(by (repeat rw [ByteArray.size_append]); (repeat rw [ByteArray.size_append]); (repeat rw [beS_size]); (try unfold kS); (repeat rw [tx_size]); (repeat rw [hoc]); (repeat rw [hot]); (repeat rw [List.length_cons]); (repeat rw [List.length_nil]); (repeat rw [text4_len]); omega),trivial⟩ ?_
   refine CfgA.done kr ?_
   refine Rg [1,5,133,134,135] [dZ,dZ,(0,false,some (.slice o.c.pa o.c.ps.length o.c.pc))] (fun S => [(∀ w1,S w1 → w1.cell? ⟨bx,36,none⟩ = some (.slice o.c.pa o.c.ps.length o.c.pc))]) ⟨(fun w1 h => h.ocell 1 rfl (by rw [List.getElem?_toArray]; exact (oc_com (j := 32) (cc_p hoc)))),trivial⟩ ?_
   refine Cfg.loop rfl (ι := Nat) (fun (i : Nat) => [(135,[],.int .i64 (i : Int)),(134,[],.int .i64 (o.c.ps.length : Int)),(133,[],.slice o.c.pa o.c.ps.length o.c.pc),(5,[],.string (psS ((kS o ++ tx o.c.d) ++ beS o.c.ps.length 4) o.c.ps i)),(1,[],.pointer (some ⟨bx,0,none⟩))]) (fun (i : Nat) => [(x2,.cells #[.int .u8 (o.k : Int)] 5 (0,0)),(bx,.cells ((oc o).toArray) 59 (0,0))]) (fun (i : Nat) => (i ≤ o.c.ps.length)) (fun (i : Nat) => o.c.ps.length - i) 0 ?_ (Conv.mk kr) (.cons_cons _ (.cons_cons _ .slnil)) ?_
   ·exact Nat.zero_le _
   ·rintro i hi
    refine Rg [1,5,133,134,135,136] [] n0 trivial ?_
    refine Cfg.cond rfl (b := (decide ((i : Int) < (o.c.ps.length : Int)))) kr (fun c4r => ?_) (fun c4r => ?_)
    ·have c4 := (of_decide_eq_true c4r)
     obtain ⟨sa,offa,csa,tea,frea,hpa,hma,hca⟩ := hO.c.p om
     refine Cg (Γ' := [(136,[],.bool (decide ((i : Int) < (o.c.ps.length : Int)))),(135,[],.int .i64 (i : Int)),(134,[],.int .i64 (o.c.ps.length : Int)),(133,[],.slice o.c.pa o.c.ps.length o.c.pc),(5,[],.string (psS ((kS o ++ tx o.c.d) ++ beS o.c.ps.length 4) o.c.ps i)),(1,[],.pointer (some ⟨bx,0,none⟩))]) ?_
     refine Cfg.setG (congrArg (fun (xq : Value) => ([(136,[],.bool (decide ((i : Int) < (o.c.ps.length : Int)))),(135,[],.int .i64 (i : Int)),(134,[],.int .i64 (o.c.ps.length : Int)),(133,[],xq),(5,[],.string (psS ((kS o ++ tx o.c.d) ++ beS o.c.ps.length 4) o.c.ps i)),(1,[],.pointer (some ⟨bx,0,none⟩))] : Env)) (show _ = .slice (some ⟨sa,offa,none⟩) o.c.ps.length o.c.pc from by rw [hpa])) ?_
     refine Cfg.begL rfl ?_
     refine Lp 2 [dZ,(0,false,some (.agg (bv (o.c.ps.getD i []))))] (some [1,5,133,134,135,138]) (fun S => [(0 ≤ (i : Int) ∧ (i : Int) < (o.c.ps.length : Int)),(∀ w1,S w1 → (loadVar 35 ⟨sa,(addO offa (i * 32)),none⟩).run Tryz.prog w1 = .ok (.agg (bv (o.c.ps.getD i []))) w1)]) ⟨om,(fun w1 h => load_bytes Tryz.underlying35 rfl kr (hO.c.w.at om) (fun j hj => by rw [addO_eq]; exact (cell_cells (h.ro _ hma)).trans (fl_cell [] (fun x hx => dgc_len (hO.c.w x hx)) hca om (dg_byte (hO.c.w.at om) hj)))),trivial⟩ ?_
     refine Le (Eff.alloc (z := (.agg (bv (List.replicate 32 0)))) rfl kr) ?_
     rintro db ⟨hdb,ndb⟩
     refine Le (Eff.storeN (b := db) (off := 0) (vs := (bv (o.c.ps.getD i []))) (n := 32) rfl kr kr kr ((bv_size _).trans (hO.c.w.at om)) (all_bv _) 0 (cs := (bv (List.replicate 32 0))) (e := 35) kr (by rw [zdg_size]; omega)) ?_
     rintro ⟨⟩ -
     refine CfgL.setO (congrArg (fun (xq : Array Value) => ([(db,.cells xq 35 (0,0)),(x2,.cells #[.int .u8 (o.k : Int)] 5 (0,0)),(bx,.cells ((oc o).toArray) 59 (0,0))] : List (Nat × Obj))) (show _ = (bv (o.c.ps.getD i [])) from spl_all (((bv_size _).trans (hO.c.w.at om)).trans zdg_size.symm))) ?_
     refine CfgL.done rfl ?_
     refine Cg (Γ' := [(15,[],.pointer (some ⟨db,0,none⟩)),(135,[],.int .i64 (i : Int)),(134,[],.int .i64 (o.c.ps.length : Int)),(133,[],.slice (some ⟨sa,offa,none⟩) o.c.ps.length o.c.pc),(5,[],.string (psS ((kS o ++ tx o.c.d) ++ beS o.c.ps.length 4) o.c.ps i)),(1,[],.pointer (some ⟨bx,0,none⟩))]) ?_
     refine Cfg.begL rfl ?_
     refine Lp 2 [dZ,(0,false,some (.agg (bv (o.c.ps.getD i []))))] (some [1,5,133,134,135,139,140]) (fun S => [(∀ w1,S w1 → (loadVar 35 ⟨db,0,none⟩).run Tryz.prog w1 = .ok (.agg (bv (o.c.ps.getD i []))) w1)]) ⟨(fun w1 h => h.oload 0 rfl Tryz.underlying35 rfl (n := 32) kr ((bv_size _).trans (hO.c.w.at om))),trivial⟩ ?_
     refine Le (Eff.callA (vs := [.agg (bv (o.c.ps.getD i []))]) (.string (tx (o.c.ps.getD i []))) rfl Tryz.func41 rfl rfl kr (fun w1 _ => rDigest (o.c.ps.getD i []) w1 (hO.c.w.at om))) ?_
     rintro ⟨⟩ -
     refine Lp 2 [] (some [1,5,133,134,135]) (fun _ => [((psS ((kS o ++ tx o.c.d) ++ beS o.c.ps.length 4) o.c.ps i).size + (tx (o.c.ps.getD i [])).size ≤ 9223372036854775807)]) ⟨(by (repeat rw [ByteArray.size_append]); (repeat rw [psS_size hO.c.w i om]); (repeat rw [ByteArray.size_append]); (repeat rw [beS_size]); (try unfold kS); (repeat rw [tx_size]); (repeat rw [hO.c.w.at (i := i) om]); (repeat rw [hoc]); (repeat rw [hot]); (repeat rw [List.length_cons]); (repeat rw [List.length_nil]); (repeat rw [text4_len]); omega),trivial⟩ ?_
     refine CfgL.done rfl ?_
     refine Rg [1,5,133,134,135] [] (fun _ => [((-9223372036854775808 : Int) ≤ ((i : Int) + 1) ∧ ((i : Int) + 1) ≤ 9223372036854775807)]) ⟨om,trivial⟩ ?_
     refine Cg (Γ' := [(135,[],.int .i64 ((i : Int) + 1)),(5,[],.string ((psS ((kS o ++ tx o.c.d) ++ beS o.c.ps.length 4) o.c.ps i) ++ (tx (o.c.ps.getD i [])))),(134,[],.int .i64 (o.c.ps.length : Int)),(133,[],.slice (some ⟨sa,offa,none⟩) o.c.ps.length o.c.pc),(1,[],.pointer (some ⟨bx,0,none⟩))]) ?_
     refine Cfg.setG (congrArg (fun (xq : ByteArray) => ([(135,[],.int .i64 ((i : Int) + 1)),(5,[],.string xq),(134,[],.int .i64 (o.c.ps.length : Int)),(133,[],.slice (some ⟨sa,offa,none⟩) o.c.ps.length o.c.pc),(1,[],.pointer (some ⟨bx,0,none⟩))] : Env)) (show _ = (psS ((kS o ++ tx o.c.d) ++ beS o.c.ps.length 4) o.c.ps (i + 1)) from by rw [psS])) ?_
     refine Cg (Γ' := [(135,[],.int .i64 ((i : Int) + 1)),(5,[],.string (psS ((kS o ++ tx o.c.d) ++ beS o.c.ps.length 4) o.c.ps (i + 1))),(134,[],.int .i64 (o.c.ps.length : Int)),(133,[],.slice (some ⟨sa,offa,none⟩) o.c.ps.length o.c.pc),(1,[],.pointer (some ⟨bx,0,none⟩))]) ?_
     refine Cfg.setG (congrArg (fun (xq : Value) => ([(135,[],.int .i64 ((i : Int) + 1)),(5,[],.string (psS ((kS o ++ tx o.c.d) ++ beS o.c.ps.length 4) o.c.ps (i + 1))),(134,[],.int .i64 (o.c.ps.length : Int)),(133,[],xq),(1,[],.pointer (some ⟨bx,0,none⟩))] : Env)) (show _ = .slice o.c.pa o.c.ps.length o.c.pc from by rw [hpa])) ?_
     refine Cfg.again rfl (i + 1) (show i + 1 ≤ o.c.ps.length by omega) om (Conv.mk kr) (.cons _ (.cons_cons _ (.cons_cons _ .slnil)))
    ·have c4 := (of_decide_eq_false c4r)
     refine Cfg.begA rfl kr [(x2,.cells #[.int .u8 (o.k : Int)] 5 (0,0)),(bx,.cells ((oc o).toArray) 59 (0,0))] ?_
     refine Ap [0,1,2,3,6,7,8] [dZ,dZ,dZ,(0,false,some (.int .u64 (o.c.n : Int))),dZ,dZ,(0,false,some (.string o.c.t))] (some [144,147,152]) #[true,true,true,true,false,false,true,true,true,false,false,false,false] (.cons_cons _ (.cons_cons _ .slnil)) 6 (fun S => [(∀ w1,S w1 → w1.cell? ⟨bx,37,none⟩ = some (.int .u64 (o.c.n : Int))),(∀ w1,S w1 → w1.cell? ⟨bx,38,none⟩ = some (.string o.c.t))]) ⟨(fun w1 h => h.ocell 1 rfl (by rw [List.getElem?_toArray]; exact (oc_com (j := 33) (cc_n hoc)))),(fun w1 h => h.ocell 1 rfl (by rw [List.getElem?_toArray]; exact (oc_com (j := 34) (cc_t hoc)))),trivial⟩ ?_
     refine Ae 4 rfl 5  (Eff.callA (vs := [.int .u64 (o.c.n : Int),.int .i64 8]) (.string (beS o.c.n 8)) rfl Tryz.func40 rfl rfl kr (fun w1 _ => rNum o.c.n 8 w1 hn (by decide))) (fun _ _ => (.cons_cons _ (.cons_cons _ .slnil))) ?_
     rintro ⟨⟩ -
     refine Ap [5] [] (some [149,152]) #[true,true,true,true,true,true,true,true,true,false,false,false,false] (.cons_cons _ (.cons_cons _ .slnil)) 4 (fun _ => [((psS ((kS o ++ tx o.c.d) ++ beS o.c.ps.length 4) o.c.ps i).size + (beS o.c.n 8).size ≤ 9223372036854775807)]) ⟨(by (repeat rw [ByteArray.size_append]); (repeat rw [psS_size hO.c.w i om]); (repeat rw [ByteArray.size_append]); (repeat rw [beS_size]); (try unfold kS); (repeat rw [tx_size]); (repeat rw [hoc]); (repeat rw [hot]); (repeat rw [List.length_cons]); (repeat rw [List.length_nil]); (repeat rw [text4_len]); omega),trivial⟩ ?_
     refine Ae 9 rfl 3  (Eff.callA (vs := [.string o.c.t]) (.string (tx (text4 o.c.t))) rfl Tryz.func42 rfl rfl kr (fun w1 _ => rText o.c.t w1 om)) (fun _ _ => (.cons_cons _ (.cons_cons _ .slnil))) ?_
     rintro ⟨⟩ -
     refine Ap [10,11,12] [] (some [2,3]) #[true,true,true,true,true,true,true,true,true,true,true,true,true] (.cons_cons _ (.cons_cons _ .slnil)) 0 (fun _ => [(((psS ((kS o ++ tx o.c.d) ++ beS o.c.ps.length 4) o.c.ps i) ++ (beS o.c.n 8)).size + (tx (text4 o.c.t)).size ≤ 9223372036854775807)]) ⟨(by (repeat rw [ByteArray.size_append]); (repeat rw [psS_size hO.c.w i om]); (repeat rw [ByteArray.size_append]); (repeat rw [beS_size]); (try unfold kS); (repeat rw [tx_size]); (repeat rw [hoc]); (repeat rw [hot]); (repeat rw [List.length_cons]); (repeat rw [List.length_nil]); (repeat rw [text4_len]); omega),trivial⟩ ?_
     refine CfgA.done kr ?_
     refine Cfg.ret rfl (rs := [.tmp 2,.tmp 3]) rfl [.string (((psS ((kS o ++ tx o.c.d) ++ beS o.c.ps.length 4) o.c.ps i) ++ (beS o.c.n 8)) ++ (tx (text4 o.c.t))),.int .i64 0] ⟨kr,by kernel_rfl,trivial⟩ (fun w1 hp => ?_)
     have hii : i = o.c.ps.length := by omega
     subst hii
     have hz : chk o = 0 := by omega
     exact ⟨by rw [obS_com om om,hz]; rfl,hp.ext⟩
  ·have c3 := (beq_eq_false_iff_ne.1 c3r)
   refine Cfg.begA rfl kr [(x2,.cells #[.int .u8 (o.k : Int)] 5 (0,0)),(bx,.cells ((oc o).toArray) 59 (0,0))] ?_
   refine Ap [0,1,2,3,6,7,8] [dZ,dZ,dZ,(0,false,some (.agg (bv o.t.d))),dZ,dZ,(0,false,some (.string o.t.t))] (some [155,158,163]) #[true,true,true,true,false,false,true,true,true,false,false,false,false] (.cons_cons _ (.cons_cons _ .slnil)) 6 (fun S => [(∀ w1,S w1 → (loadVar 35 ⟨bx,39,none⟩).run Tryz.prog w1 = .ok (.agg (bv o.t.d)) w1),(∀ w1,S w1 → w1.cell? ⟨bx,71,none⟩ = some (.string o.t.t))]) ⟨(fun w1 h => load_list (vs := dgc o.t.d) Tryz.underlying35 rfl kr (dgc_len hot) (fun j v hj => h.ocell 1 rfl (by rw [List.getElem?_toArray]; exact (fun j v hj => oc_tag hoc (tc_d hj)) j v hj))),(fun w1 h => h.ocell 1 rfl (by rw [List.getElem?_toArray]; exact (oc_tag hoc (j := 32) (tc_t hot)))),trivial⟩ ?_
   refine Ae 4 rfl 5  (Eff.callA (vs := [.agg (bv o.t.d)]) (.string (tx o.t.d)) rfl Tryz.func41 rfl rfl kr (fun w1 _ => rDigest o.t.d w1 hot)) (fun _ _ => (.cons_cons _ (.cons_cons _ .slnil))) ?_
   rintro ⟨⟩ -
   refine Ap [5] [] (some [160,163]) #[true,true,true,true,true,true,true,true,true,false,false,false,false] (.cons_cons _ (.cons_cons _ .slnil)) 4 (fun _ => [((kS o).size + (tx o.t.d).size ≤ 9223372036854775807)]) ⟨(by (repeat rw [ByteArray.size_append]); (repeat rw [ByteArray.size_append]); (repeat rw [beS_size]); (try unfold kS); (repeat rw [tx_size]); (repeat rw [hoc]); (repeat rw [hot]); (repeat rw [List.length_cons]); (repeat rw [List.length_nil]); (repeat rw [text4_len]); omega),trivial⟩ ?_
   refine Ae 9 rfl 3  (Eff.callA (vs := [.string o.t.t]) (.string (tx (text4 o.t.t))) rfl Tryz.func42 rfl rfl kr (fun w1 _ => rText o.t.t w1 om)) (fun _ _ => (.cons_cons _ (.cons_cons _ .slnil))) ?_
   rintro ⟨⟩ -
   refine Ap [10,11,12] [] (some [2,3]) #[true,true,true,true,true,true,true,true,true,true,true,true,true] (.cons_cons _ (.cons_cons _ .slnil)) 0 (fun _ => [(((kS o) ++ (tx o.t.d)).size + (tx (text4 o.t.t)).size ≤ 9223372036854775807)]) ⟨(by (repeat rw [ByteArray.size_append]); (repeat rw [ByteArray.size_append]); (repeat rw [beS_size]); (try unfold kS); (repeat rw [tx_size]); (repeat rw [hoc]); (repeat rw [hot]); (repeat rw [List.length_cons]); (repeat rw [List.length_nil]); (repeat rw [text4_len]); omega),trivial⟩ ?_
   refine CfgA.done kr ?_
   refine Cfg.ret rfl (rs := [.tmp 2,.tmp 3]) rfl [.string (((kS o) ++ (tx o.t.d)) ++ (tx (text4 o.t.t))),.int .i64 0] ⟨kr,by kernel_rfl,trivial⟩ (fun w1 hp => ?_)
   have hz : chk o = 0 := by omega
   exact ⟨by rw [obS_tag om om,hz]; rfl,hp.ext⟩
set_option maxRecDepth 100000 in
set_option maxHeartbeats 4000000 in
theorem rID (o : OM) (Rl : List (Nat × Obj)) (w : World) (hO : InO Rl o) (hR : Has w Rl) (hk : o.k = 99 ∨ o.k = 116) (hn : o.c.n < 18446744073709551616) :
  Calls Tryz.prog 12 #[.agg (oc o).toArray] w fun e w' => e = .returned (.agg (bv (shaD (obS o).data.toList))) ∧ Ext [] w w' := by
 have hoc := hO.c.d
 have hot := hO.t
 have hcn := hO.c.n
 have hos := obS_size hO
 refine enter (vs := [.agg (oc o).toArray]) [] Rl [] Tryz.func12 rfl kr (HP.ofHas hR) ?_
 refine Cfg.begL rfl ?_
 refine Le (Eff.box (v := .agg (oc o).toArray) rfl kr) ?_
 rintro bx ⟨hbx,nbx⟩
 refine Le (Eff.alloc (z := (.agg (bv (List.replicate 32 0)))) rfl kr) ?_
 rintro rb ⟨hrb,nrb⟩
 refine CfgL.done rfl ?_
 refine Cg (Γ' := [(2,[],.pointer (some ⟨rb,0,none⟩)),(1,[],.pointer (some ⟨bx,0,none⟩))]) ?_
 refine Cfg.begL rfl ?_
 refine Lp 1 [(0,false,some (.agg (oc o).toArray))] (some [2,6]) (fun S => [(∀ w1,S w1 → (loadVar 59 ⟨bx,0,none⟩).run Tryz.prog w1 = .ok (.agg (oc o).toArray) w1)]) ⟨(fun w1 h => load_list Tryz.underlying59 rfl kr (oc_len hoc hot) (fun j v hj => h.ocell 1 rfl (by rw [List.getElem?_toArray]; exact (fun j v hj => by rw [Nat.zero_add]; exact hj) j v hj))),trivial⟩ ?_
 refine Le (Eff.callA (vs := [.agg (oc o).toArray]) (.tuple #[.string (obS o),.int .i64 (chk o)]) rfl Tryz.func26 rfl rfl kr (fun w1 h => rByt o Rl w1 hO (h.hasR (fun e he => he)) hk hn)) ?_
 rintro ⟨⟩ -
 refine Lp 5 [] (some [2,3]) n0 trivial ?_
 refine CfgL.done rfl ?_
 refine Cfg.begL rfl ?_
 refine Lp 1 [] (some [2,10]) n0 trivial ?_
 refine Le (Eff.callA (vs := [.string (obS o)]) (.agg (bv (shaD (obS o).data.toList))) rfl Tryz.func27 rfl rfl kr (fun w1 _ => rSum (obS o) w1 om)) ?_
 rintro ⟨⟩ -
 refine Le (Eff.storeN (b := rb) (off := 0) (vs := (bv (shaD (obS o).data.toList))) (n := 32) rfl kr kr kr ((bv_size _).trans (shaD_len _)) (all_bv _) 0 (cs := (bv (List.replicate 32 0))) (e := 35) kr (by rw [zdg_size]; omega)) ?_
 rintro ⟨⟩ -
 refine CfgL.setO (congrArg (fun (xq : Array Value) => ([(rb,.cells xq 35 (0,0)),(bx,.cells ((oc o).toArray) 59 (0,0))] : List (Nat × Obj))) (show _ = (bv (shaD (obS o).data.toList)) from spl_all (((bv_size _).trans (shaD_len _)).trans zdg_size.symm))) ?_
 refine CfgL.done rfl ?_
 refine Cg (Γ' := [(2,[],.pointer (some ⟨rb,0,none⟩))]) ?_
 refine Cfg.ret rfl (rs := [.cell 2 35]) rfl [.agg (bv (shaD (obS o).data.toList))] ⟨⟨_,by kernel_rfl,(fun w1 h => h.oload 0 rfl Tryz.underlying35 rfl (n := 32) kr ((bv_size _).trans (shaD_len _)))⟩,trivial⟩ (fun w1 hp => ?_)
 exact ⟨rfl,hp.ext⟩
end Go.Proofs.YtinhinjpfmdfiaaGreatDoor
namespace Go.Proofs.YtinhinjpfmdfiaaGreatDoor
namespace I
open K (one aggB run_underlying' run_sizeOf' add_none run_v cell_cells)
set_option linter.unusedVariables false
def opndA (G n d : Nat) (tm : AV) : Operand → AV
 | .tmp t => bif Nat.blt t n then cget d tm t else .undef
 | .const v => ofConst v
 | .global g => bif Nat.blt g G then .ptr g 0 else .bad
 | .func f => .fn f .lnil .lnil
def putA (n d : Nat) (tm : AV) : Option Nat → AV → AV
 | none,_ => tm
 | some t,v => bif Nat.blt t n then cput d tm t v else tm
structure SlotRel (ds : List Deferred) (σ : Sg) (n d : Nat) (tm : AV) (a : Act) : Prop where
 size : a.tmps.size = n
 dfr : a.defers = ds
 le : n ≤ 2 ^ d
 sl : ∀ t,t < n → Rel σ (cget d tm t) (a.tmps.getD t Go.undef)
def GRel (σ : Sg) (G : Nat) : Prop := ∀ g,g < G → ∃ size,σ g = some (g,0,size)
theorem GRel.mono {σ σ' : Sg} {G : Nat} (h : GRel σ G) (hs : Sub σ σ') : GRel σ' G := fun g hg => by
 obtain ⟨size,h1⟩ := h g hg
 exact ⟨size,hs _ _ h1⟩
section
variable {P : Program} {ds : List Deferred} {σ σ' : Sg} {G n d : Nat} {tm : AV} {a : Act}
theorem SlotRel.mono (h : SlotRel ds σ n d tm a) (hs : Sub σ σ') : SlotRel ds σ' n d tm a := ⟨h.size,h.dfr,h.le,fun t ht => (h.sl t ht).mono hs⟩
theorem opnd_ok (hs : SlotRel ds σ n d tm a) (hg : GRel σ G) (x : Operand) : Rel σ (opndA G n d tm x) (a.eval x) := by
 cases x with
 | tmp t =>
  simp only [opndA,Act.eval]
  cases hb : Nat.blt t n with
  | true => simp only [cond_true]; exact hs.sl t (blt_iff.1 hb)
  | false =>
   have := blt_false.1 hb
   simp only [cond_false]
   rw [Array.getD_eq_getD_getElem?,Array.getElem?_eq_none (by rw [hs.size]; exact this)]
   exact .undef
 | const v => exact ofConst_ok σ v
 | global g =>
  simp only [opndA,Act.eval]
  cases hb : Nat.blt g G with
  | true =>
   obtain ⟨size,h1⟩ := hg g (blt_iff.1 hb)
   simp only [cond_true]
   exact .ptr _ _ g 0 size 0 h1 rfl
  | false => simp only [cond_false]; exact .bad _
 | func f => exact .fn f .lnil .lnil #[] #[] rfl rfl (fun i a v h => by simp [toList] at h) (fun i a v h => by simp [toList] at h)
theorem put_ok (hs : SlotRel ds σ n d tm a) {dst : Option Nat} {v : AV} {v' : Value} (hv : Rel σ v v') : SlotRel ds σ n d (putA n d tm dst v) (a.put dst v') := by
 cases dst with
 | none => exact hs
 | some t =>
  simp only [putA]
  cases hb : Nat.blt t n with
  | false =>
   have hlt := blt_false.1 hb
   simp only [cond_false]
   refine ⟨by simp [Act.put,hs.size],hs.dfr,hs.le,fun u hu => ?_⟩
   simp only [Act.put]
   rw [K.getD_set,if_neg (by rw [hs.size]; omega)]
   exact hs.sl u hu
  | true =>
   have hlt := blt_iff.1 hb
   simp only [cond_true]
   refine ⟨by simp [Act.put,hs.size],hs.dfr,hs.le,fun u hu => ?_⟩
   have hle := hs.le
   simp only [Act.put]
   rw [cget_cput d tm t u v om om,K.getD_set]
   by_cases hut : u = t
   ·rw [if_pos hut,if_pos ⟨hut,by rw [hs.size]; exact hlt⟩]; exact hv
   ·rw [if_neg hut,if_neg (fun h => hut h.1)]; exact hs.sl u hu
theorem rel_bool {x : AV} {b : Bool} (h : Rel σ x (.bool b)) (hb : x ≠ .bad) : x = .bool b := by
 cases h with
 | bad => exact absurd rfl hb
 | bool => rfl
def wantA (n d : Nat) (ops : Array Oper) (tm : AV) (o : Oper) : Option Bool :=
 match o.guard with
 | none => some true
 | some (j,want) => match (ops[j]?).bind (·.dst) with
  | none => none
  | some t => bif Nat.blt t n then
    match cget d tm t with
    | .bool b => some (b == want)
    | .bad => none
    | _ => some false
   else none
theorem wantA_ok (hs : SlotRel ds σ n d tm a) {ops : Array Oper} {o : Oper} {b : Bool} (h : wantA n d ops tm o = some b) : Region.wanted o (yielded ops a.tmps) = b := by
 unfold wantA at h
 split at h
 ·rename_i hg
  simp only [Option.some.injEq] at h
  subst h
  simp [Region.wanted,hg]
 ·rename_i j want hg
  split at h
  ·cases h
  ·rename_i t ht
   cases hb : Nat.blt t n with
   | false => simp [hb] at h
   | true =>
    simp only [hb,cond_true] at h
    have hr := hs.sl t (blt_iff.1 hb)
    have hw := K.wanted_iff (tm := a.tmps) hg ht
    split at h
    ·rename_i c hc
     simp only [Option.some.injEq] at h
     rw [hc] at hr
     generalize hv : a.tmps.getD t Go.undef = v at hr hw
     cases hr
     rw [Bool.eq_iff_iff,hw,← h]
     simp
    ·cases h
    ·rename_i hnb hne
     simp only [Option.some.injEq] at h
     rw [← h,Bool.eq_false_iff]
     intro hh
     have := hw.1 hh
     rw [this] at hr
     exact hnb _ (rel_bool hr (fun e => hne (by rw [e])))
end
inductive SR where
 | val (v h : AV) (nx : Nat)
 | call (f : Nat) (args : List AV)
def loadP (P : Program) (h : AV) (t : TypeId) : AV → Option AV
 | .ptr b off => match cget HD h b with
  | .cells _ n _ tr => apartA P t n tr off
  | _ => none
 | _ => none
theorem loadP_ok {P : Program} {σ : Sg} {h : AV} {nx : Nat} {w0 w : World} {B : Fr} (H : HS σ h nx w0 B w) {t : TypeId} {a v : AV} {ad : Addr} (hr : Rel σ a (.pointer (some ad))) (hl : loadP P h t a = some v) : ∃ u,Rel σ v u ∧ (loadVar t ad).run P w = .ok u w := by
 cases hr with
 | bad => cases hl
 | ptr b off r base size o hs ho =>
 unfold loadP at hl
 dsimp only at hl
 split at hl
 ·rename_i ety n ro tr hc
  obtain ⟨cs,fr,tt,h1,h2,h3,h4,h5⟩ := H.cells hs hc
  exact run_loadVar (P := P) (σ := σ) h1 om h4 ho hl
 ·cases hl
def followA (P : Program) (h : AV) : List FieldStep → TypeId → Bool → AV → Option (TypeId × Bool × AV)
 | [],t,vr,a => some (t,vr,a)
 | s :: rest,t,vr,a => match P.underlying s.struct with
  | some (.struct fs) => match fs[s.index]? with
   | some f => match P.info? f.type with
    | some inf => bif Nat.beq inf.size 0 then none else
     match (bif s.deref then (bif vr then loadP P h t a else some a) else (bif vr then some a else none)) with
     | some (.ptr b off) => followA P h rest f.type true (.ptr b (off + f.offset))
     | _ => none
    | none => none
   | none => none
  | _ => none
def PlRel (σ : Sg) : Bool → AV → Place → Prop
 | true,a,.var ad => Rel σ a (.pointer (some ad))
 | false,a,.val v => Rel σ a v
 | _,_,_ => False
theorem followA_ok {P : Program} {σ : Sg} {h : AV} {nx : Nat} {w0 w : World} {B : Fr} (H : HS σ h nx w0 B w) : ∀ (l : List FieldStep) {t : TypeId} {vr : Bool} {a : AV} {x : Place} {t' : TypeId} {vr' : Bool} {a' : AV},PlRel σ vr a x → followA P h l t vr a = some (t',vr',a') →
  ∃ x',PlRel σ vr' a' x' ∧ (follow l t x).run P w = .ok (t',x') w
 | [],t,vr,a,x,t',vr',a',hx,hf => by
  simp only [followA,Option.some.injEq,Prod.mk.injEq] at hf
  obtain ⟨rfl,rfl,rfl⟩ := hf
  exact ⟨x,hx,by simp [follow]⟩
 | s :: rest,t,vr,a,x,t',vr',a',hx,hf => by
  unfold followA at hf
  split at hf
  ·rename_i fs hu
   split at hf
   ·rename_i f hfl
    split at hf
    ·rename_i inf hi
     cases h0 : Nat.beq inf.size 0 with
     | true => simp only [h0,cond_true] at hf; cases hf
     | false =>
     simp only [h0,cond_false] at hf
     have h0' : ¬ inf.size = 0 := fun e => by rw [beqn_iff.2 e] at h0; cases h0
     have hu' : (underlying s.struct).run P w = .ok (.struct fs) w := by simp [underlying,program,Sem.run,hu]
     have hpl : ∀ r o : Nat,(fieldPlace ⟨r,o,none⟩ f).run P w = .ok ⟨r,o + f.offset,none⟩ w := by
      intro r o
      simp [fieldPlace,run_sizeOf' hi,h0',add_none]
     split at hf
     ·rename_i b off he
      cases hd : s.deref with
      | true =>
       simp only [hd,cond_true] at he
       have hg : ∃ ad,(x.get t).run P w = .ok (.pointer (some ad)) w ∧ Rel σ (.ptr b off) (.pointer (some ad)) := by
        cases vr with
        | true =>
         simp only [cond_true] at he
         cases x with
         | val v => exact hx.elim
         | var ad =>
          obtain ⟨u,g1,g2⟩ := loadP_ok H hx he
          cases g1 with
          | ptr _ _ r base size o hs ho => exact ⟨_,g2,.ptr _ _ r base size o hs ho⟩
        | false =>
         simp only [cond_false,Option.some.injEq] at he
         subst he
         cases x with
         | var ad => exact hx.elim
         | val v =>
          cases hx with
          | ptr _ _ r base size o hs ho => exact ⟨_,by simp [Place.get],.ptr _ _ r base size o hs ho⟩
       obtain ⟨ad,g1,g2⟩ := hg
       cases g2 with
       | ptr _ _ r base size o hs ho =>
       obtain ⟨x',k1,k2⟩ := followA_ok H rest (x := .var ⟨r,o + f.offset,none⟩) (vr := true) (a := .ptr b (off + f.offset)) (t := f.type) (.ptr _ _ r base size _ hs om) hf
       refine ⟨x',k1,?_⟩
       simp only [follow,Sem.run_bind,hu',Result.andThen_ok,hfl,hd,if_true,g1,asAddr,Sem.run_pure,hpl,k2]
      | false =>
       simp only [hd,cond_false] at he
       cases vr with
       | false => simp only [cond_false] at he; cases he
       | true =>
        simp only [cond_true,Option.some.injEq] at he
        subst he
        cases x with
        | val v => exact hx.elim
        | var ad =>
         have hx' : Rel σ (.ptr b off) (.pointer (some ad)) := hx
         cases hx' with
         | ptr _ _ r base size o hs ho =>
         obtain ⟨x',k1,k2⟩ := followA_ok H rest (x := .var ⟨r,o + f.offset,none⟩) (vr := true) (a := .ptr b (off + f.offset)) (t := f.type) (.ptr _ _ r base size _ hs om) hf
         refine ⟨x',k1,?_⟩
         simp only [follow,Sem.run_bind,hu',Result.andThen_ok,hfl,hd,Bool.false_eq_true,if_false,hpl,k2]
     ·cases hf
    ·cases hf
   ·cases hf
  ·cases hf
def recvA (P : Program) (h : AV) (xt : TypeId) (vr : Bool) (a : AV) (pr : Bool) : Option AV :=
 match P.underlying xt with
 | some (.pointer _) => bif pr then (bif vr then loadP P h xt a else some a) else none
 | some _ => bif pr then (bif vr then some a else none) else (bif vr then loadP P h xt a else some a)
 | none => none
theorem recvA_ok {P : Program} {σ : Sg} {h : AV} {nx : Nat} {w0 w : World} {B : Fr} (H : HS σ h nx w0 B w) {xt : TypeId} {vr : Bool} {a r : AV} {x : Place} {pr : Bool} (hx : PlRel σ vr a x) (hr : recvA P h xt vr a pr = some r) (wr : Option String) :
  ∃ u,Rel σ r u ∧ (receiverAt xt x pr wr).run P w = .ok u w := by
 have hget : ∀ {v : AV},(bif vr then loadP P h xt a else some a) = some v → ∃ u,Rel σ v u ∧ (x.get xt).run P w = .ok u w := by
  intro v hv
  cases vr with
  | true =>
   simp only [cond_true] at hv
   cases x with
   | val u => exact hx.elim
   | var ad =>
    obtain ⟨u,g1,g2⟩ := loadP_ok H hx hv
    exact ⟨u,g1,g2⟩
  | false =>
   simp only [cond_false,Option.some.injEq] at hv
   subst hv
   cases x with
   | var ad => exact hx.elim
   | val u => exact ⟨u,hx,by simp [Place.get]⟩
 unfold recvA at hr
 split at hr
 ·rename_i el hu
  have hu' : (underlying xt).run P w = .ok (.pointer el) w := by simp [underlying,program,Sem.run,hu]
  cases pr with
  | false => simp only [cond_false] at hr; cases hr
  | true =>
   simp only [cond_true] at hr
   obtain ⟨u,g1,g2⟩ := hget hr
   exact ⟨u,g1,by simp only [receiverAt,Sem.run_bind,hu',Result.andThen_ok,g2]⟩
 ·rename_i d hd hu
  have hu' : (underlying xt).run P w = .ok d w := by simp [underlying,program,Sem.run,hu]
  cases pr with
  | false =>
   simp only [cond_false] at hr
   obtain ⟨u,g1,g2⟩ := hget hr
   refine ⟨u,g1,?_⟩
   simp only [receiverAt,Sem.run_bind,hu',Result.andThen_ok]
   cases d <;> first | exact absurd rfl (hd _) | simp only [g2]
  | true =>
   cases vr with
   | false => simp only [cond_true,cond_false] at hr; cases hr
   | true =>
    simp only [cond_true,Option.some.injEq] at hr
    subst hr
    cases x with
    | val u => exact hx.elim
    | var ad =>
     refine ⟨_,hx,?_⟩
     simp only [receiverAt,Sem.run_bind,hu',Result.andThen_ok]
     cases d <;> first | exact absurd rfl (hd _) | simp
 ·cases hr
def methodA (P : Program) (h : AV) (t : TypeId) (v : AV) (name : String) : Option (Nat × AV) :=
 match P.info? t with
 | none => none
 | some i => match i.methods.toList.find? (fun m => m.name == name) with
  | none => none
  | some m => match m.func with
   | none => none
   | some (f,pr) => match followA P h m.path.toList t false v with
    | some (xt,vr,a) => match recvA P h xt vr a pr with
     | some r => some (f,r)
     | none => none
    | none => none
theorem method_run {P : Program} {σ : Sg} {h : AV} {nx : Nat} {w0 w : World} {B : Fr} (H : HS σ h nx w0 B w) {t : TypeId} {v : AV} {u : Value} {name : String} {f : Nat} {r : AV} (hv : Rel σ v u) (hm : methodA P h t v name = some (f,r)) (n : Nat) :
  ∃ u',Rel σ r u' ∧ (method (n + 1) t u name).run P w = .ok (f,u') w := by
 unfold methodA at hm
 split at hm
 ·cases hm
 ·rename_i i hi
  have hti : (typeInfo t).run P w = .ok i w := by simp [typeInfo,program,Sem.run,hi]
  split at hm
  ·cases hm
  ·rename_i m hfm
   rw [Array.find?_toList] at hfm
   split at hm
   ·cases hm
   ·rename_i f' pr hf
    split at hm
    ·rename_i xt vr a hfo
     split at hm
     ·rename_i r' hr
      simp only [Option.some.injEq,Prod.mk.injEq] at hm
      obtain ⟨rfl,rfl⟩ := hm
      obtain ⟨x',k1,k2⟩ := followA_ok H _ (x := .val u) (vr := false) hv hfo
      obtain ⟨u',k3,k4⟩ := recvA_ok H k1 hr (if m.path.isEmpty then some ((name.splitOn ".").getLastD name) else none)
      refine ⟨u',k3,?_⟩
      simp only [method,Sem.run_bind,hti,Result.andThen_ok,hfm,k2,hf,k4,Sem.run_pure]
     ·cases hm
    ·cases hm
def acallee (P : Program) (ρ : Operand → AV) (h : AV) (o : Oper) : Option (Nat × List AV) :=
 match o.op with
 | .call ⟨.value f,args,_⟩ => match ρ f with
  | .fn g first caps => some (2 * g,toList first ++ (args.toList.map ρ ++ toList caps))
  | .yld b => some (2 * b + 1,args.toList.map ρ)
  | .mth name (.ifc t v) => match methodA P h t v name with
   | some (g,r) => some (2 * g,r :: args.toList.map ρ)
   | none => none
  | _ => none
 | .call ⟨.invoke r name,args,_⟩ => match ρ r with
  | .ifc t v => match methodA P h t v name with
   | some (f,r) => some (2 * f,r :: args.toList.map ρ)
   | none => none
  | _ => none
 | _ => none
def astep (P : Program) (ρ : Operand → AV) (h : AV) (nx : Nat) (o : Oper) : Option SR :=
 match apure P ρ o with
 | some v => some (.val v h nx)
 | none => match aread P ρ h o with
  | some v => some (.val v h nx)
  | none => match anew P ρ o with
   | some (nv,x) => bif Nat.blt nx (2 ^ HD) then some (.val (nv.at nx) (cput HD h nx x) (nx + 1)) else none
   | none => match aeff P ρ h nx o with
    | some (v,h',nx') => some (.val v h' nx')
    | none => match acallee P ρ h o with
     | some (f,args) => some (.call f args)
     | none => none
def RelL (σ : Sg) (l : List AV) (vs : List Value) : Prop := l.length = vs.length ∧ ∀ (i : Nat) a v,l[i]? = some a → vs[i]? = some v → Rel σ a v
section
variable {P : Program} {σ : Sg} {h : AV} {nx : Nat} {w0 w : World} {B : Fr}
theorem RelL.mono {σ' : Sg} {l : List AV} {vs : List Value} (hr : RelL σ l vs) (hs : Sub σ σ') : RelL σ' l vs := ⟨hr.1,fun i a v ha hv => (hr.2 i a v ha hv).mono hs⟩
theorem RelL.app {l l' : List AV} {vs vs' : List Value} (h1 : RelL σ l vs) (h2 : RelL σ l' vs') : RelL σ (l ++ l') (vs ++ vs') := by
 refine ⟨by simp [h1.1,h2.1],fun i a v ha hv => ?_⟩
 by_cases hi : i < l.length
 ·rw [List.getElem?_append_left hi] at ha
  rw [List.getElem?_append_left (by rw [← h1.1]; exact hi)] at hv
  exact h1.2 i a v ha hv
 ·rw [List.getElem?_append_right om] at ha
  rw [List.getElem?_append_right (by rw [← h1.1]; omega),← h1.1] at hv
  exact h2.2 _ a v ha hv
theorem map_relL {ρ : Operand → AV} {ev : Operand → Value} (hρ : ∀ x,Rel σ (ρ x) (ev x)) (xs : List Operand) : RelL σ (xs.map ρ) (xs.map ev) := by
 refine ⟨by simp,fun i a v ha hv => ?_⟩
 simp only [List.getElem?_map,Option.map_eq_some_iff] at ha hv
 obtain ⟨x,h1,rfl⟩ := ha
 obtain ⟨y,h2,rfl⟩ := hv
 rw [h1] at h2; simp only [Option.some.injEq] at h2; subst h2
 exact hρ x
def fen (ro : Option Nat) : Fence := { Fence.wide with round := ro }
def CalleeOk (P : Program) (σ : Sg) (code : Nat) (vs : List Value) (w : World) (R : Ending → World → Prop) : Prop :=
 if code % 2 = 0 then (∃ fn c,P.funcs[code / 2]? = some fn ∧ (fn.name == "runtime.NumGoroutine") = false ∧ fn.body = some c) ∧ Calls P (code / 2) vs.toArray w R
 else ∀ r base size,σ (code / 2) = some (r,base,size) → ∃ f tmps assign body,(Instr.yield r vs.toArray).run P w = .ok (.round r f tmps assign body) w ∧ RoundIn Fence.wide 0 P r f tmps assign body w R
theorem semAt_run {ro : Option Nat} {ev : Operand → Value} {o : Oper} {x : Next} {w' : World} (h : (execOp ev o).run P w = .ok x w') (hx : ∀ d,x ≠ .defer d) : (o.semAt ro ev).run P w = .ok x w' := by
 rw [Oper.semAt_eq]
 ·exact h
 ·intro c hc
  obtain ⟨dst,op,oty,pos,after,guard⟩ := o
  simp only at hc
  subst hc
  simp only [execOp,Sem.run_bind] at h
  cases hr : (resolve ev c oty).run P w with
  | ok d w1 =>
   simp only [hr,Result.andThen_ok,Sem.run_pure,Result.ok.injEq] at h
   exact hx d h.1.symm
  | halt z w1 => simp [hr] at h
theorem wpIn_value {ro : Option Nat} {a : Act} {o : Oper} {v : Value} {w' : World} {next : Act → World → Prop} {Q : Exit → Act → World → Prop} (h : (execOp a.eval o).run P w = .ok (.value v) w') (hn : next (a.put o.dst v) w') : o.wpIn (fen ro) 0 P a w next Q := by
 refine ⟨fun _ _ => trivial,?_⟩
 rw [semAt_run h (fun d hd => by cases hd)]
 exact hn
theorem wpIn_skipOp {ro : Option Nat} {a : Act} {o : Oper} {w' : World} {next : Act → World → Prop} {Q : Exit → Act → World → Prop} (h : (execOp a.eval o).run P w = .ok .skip w') (hn : next (a.put o.dst Go.undef) w') : o.wpIn (fen ro) 0 P a w next Q := by
 refine ⟨fun _ _ => trivial,?_⟩
 rw [semAt_run h (fun d hd => by cases hd)]
 exact hn
theorem wpIn_callOp {ro : Option Nat} {a : Act} {ρ : Operand → AV} {o : Oper} {code : Nat} {args : List AV} (H : HS σ h nx w0 B w) (hρ : ∀ x,Rel σ (ρ x) (a.eval x)) (hc : acallee P ρ h o = some (code,args)) {R : Ending → World → Prop}
  (hk : ∀ vs,RelL σ args vs → CalleeOk P σ code vs w R) {next : Act → World → Prop} {Q : Exit → Act → World → Prop} (hR : ∀ e w',R e w' → ∃ v',e = .returned v' ∧ next (a.put o.dst v') w') : o.wpIn (fen ro) 0 P a w next Q := by
 obtain ⟨dst,op,oty,pos,after,guard⟩ := o
 refine ⟨fun _ _ => trivial,?_⟩
 unfold acallee at hc
 dsimp only at hc
 split at hc
 ·rename_i g xs tys
  split at hc
  ·rename_i f' first caps he
   simp only [Option.some.injEq,Prod.mk.injEq] at hc
   obtain ⟨rfl,rfl⟩ := hc
   have hg := hρ g
   rw [he] at hg
   generalize hgv : a.eval g = gv at hg
   cases hg with
   | fn _ _ _ ys zs h1 h2 h3 h4 =>
   have hrel : RelL σ (toList first ++ (xs.toList.map ρ ++ toList caps)) (ys.toList ++ (xs.toList.map a.eval ++ zs.toList)) :=
    RelL.app ⟨by simpa using h1,fun i a v ha hv => h3 i a v ha (by simpa using hv)⟩ (RelL.app (map_relL hρ _) ⟨by simpa using h2,fun i a v ha hv => h4 i a v ha (by simpa using hv)⟩)
   have hk := hk _ hrel
   unfold CalleeOk at hk
   rw [if_pos om,show 2 * f' / 2 = f' by omega] at hk
   obtain ⟨⟨fn,c,c1,c2,c3⟩,hcall⟩ := hk
   have hrun : (execOp a.eval ⟨dst,.call ⟨.value g,xs,tys⟩,oty,pos,after,guard⟩).run P w = .ok (.enter f' (ys.toList ++ (xs.toList.map a.eval ++ zs.toList)).toArray) w := by
    have e : ys ++ xs.map a.eval ++ zs = (ys.toList ++ (xs.toList.map a.eval ++ zs.toList)).toArray := by
     apply Array.ext'
     simp
    simp only [execOp,resolve,hgv,Deferred.ofValue,Sem.run_bind,Sem.run_pure,Result.andThen_ok,invoke]
    rw [e]
    exact K.run_callFunc c1 c2 c3
   rw [semAt_run hrun (fun d hd => by cases hd),Oper.uponIn_enter]
   refine ⟨fun h => (by cases h),?_⟩
   have h1 : CallsIn Fence.wide 0 P f' _ w R := callsIn_wide.2 hcall
   have h2 : CallsIn (fen ro) 0 P f' _ w R := h1
   refine h2.mono fun e w' he => ?_
   obtain ⟨v',rfl,hn⟩ := hR e w' he
   exact hn
  ·rename_i b he
   simp only [Option.some.injEq,Prod.mk.injEq] at hc
   obtain ⟨rfl,rfl⟩ := hc
   have hg := hρ g
   rw [he] at hg
   generalize hgv : a.eval g = gv at hg
   cases hg with
   | yld _ r base size hs =>
   have hk := hk _ (map_relL hρ xs.toList)
   unfold CalleeOk at hk
   rw [if_neg om,show (2 * b + 1) / 2 = b by omega] at hk
   obtain ⟨f,tmps,assign,body,h1,h2⟩ := hk r base size hs
   have hrun : (execOp a.eval ⟨dst,.call ⟨.value g,xs,tys⟩,oty,pos,after,guard⟩).run P w = .ok (.round r f tmps assign body) w := by
    have e : xs.map a.eval = (xs.toList.map a.eval).toArray := by
     apply Array.ext'
     simp
    simp only [execOp,resolve,hgv,Deferred.ofValue,Sem.run_bind,Sem.run_pure,Result.andThen_ok,invoke]
    simp
    rw [e]
    exact h1
   rw [semAt_run hrun (fun d hd => by cases hd),Oper.uponIn_round]
   refine ⟨fun h => (by cases h),?_⟩
   have h3 : RoundIn (fen ro) 0 P r f tmps assign body w R := h2
   refine h3.mono fun e w' he => ?_
   obtain ⟨v',rfl,hn⟩ := hR e w' he
   exact hn
  ·rename_i name t v0 he
   split at hc
   ·rename_i f' r0 hm
    simp only [Option.some.injEq,Prod.mk.injEq] at hc
    obtain ⟨rfl,rfl⟩ := hc
    have hg := hρ g
    rw [he] at hg
    generalize hgv : a.eval g = gv at hg
    cases hg with
    | mth _ _ v1 h0 =>
    cases h0 with
    | ifc _ _ v1' h1 =>
    obtain ⟨v',h1',hrun0⟩ := method_run (P := P) H h1 hm (P.types.size + 99)
    have hrel : RelL σ (r0 :: xs.toList.map ρ) (v' :: xs.toList.map a.eval) := by
     have h2 := RelL.app (l := [r0]) (vs := [v']) ⟨rfl,fun i a b ha hb => by
      cases i with
      | zero => simp only [List.getElem?_cons_zero,Option.some.injEq] at ha hb; rw [← ha,← hb]; exact h1'
      | succ i => simp at ha⟩ (map_relL hρ xs.toList)
     exact h2
    have hk := hk _ hrel
    unfold CalleeOk at hk
    rw [if_pos om,show 2 * f' / 2 = f' by omega] at hk
    obtain ⟨⟨fn,c,c1,c2,c3⟩,hcall⟩ := hk
    have hrun : (execOp a.eval ⟨dst,.call ⟨.value g,xs,tys⟩,oty,pos,after,guard⟩).run P w = .ok (.enter f' (v' :: xs.toList.map a.eval).toArray) w := by
     have hpr : (program).run P w = .ok P w := by simp [program,Sem.run]
     have e : #[v'] ++ Array.extract (#[Value.iface t v1'] ++ xs.map a.eval) 1 (#[Value.iface t v1'] ++ xs.map a.eval).size = (v' :: xs.toList.map a.eval).toArray := by
      apply Array.ext'
      simp
      exact List.take_of_length_le (by simp)
     have e0 : (#[Value.iface t v1'] ++ xs.map a.eval)[0]? = some (.iface t v1') := by
      rw [Array.getElem?_append_left (by simp)]
      rfl
     have e1 : (callMethod (.iface t v1') name (Array.extract (#[Value.iface t v1'] ++ xs.map a.eval) 1 (#[Value.iface t v1'] ++ xs.map a.eval).size)).run P w = .ok (.enter f' (v' :: xs.toList.map a.eval).toArray) w := by
      simp only [callMethod,Sem.run_bind,hpr,Result.andThen_ok,show P.types.size + Made.depth = (P.types.size + 99) + 1 from rfl,hrun0]
      rw [e]
      exact K.run_callFunc c1 c2 c3
     simp only [execOp,resolve,hgv,Deferred.ofValue,Sem.run_bind,Sem.run_pure,Result.andThen_ok,invoke,e0]
     exact e1
    rw [semAt_run hrun (fun d hd => by cases hd),Oper.uponIn_enter]
    refine ⟨fun h => (by cases h),?_⟩
    have h1 : CallsIn Fence.wide 0 P f' _ w R := callsIn_wide.2 hcall
    have h2 : CallsIn (fen ro) 0 P f' _ w R := h1
    refine h2.mono fun e w' he => ?_
    obtain ⟨v',rfl,hn⟩ := hR e w' he
    exact hn
   ·cases hc
  ·cases hc
 ·rename_i rc name xs tys
  split at hc
  ·rename_i t v0 he
   split at hc
   ·rename_i f' r0 hm
    simp only [Option.some.injEq,Prod.mk.injEq] at hc
    obtain ⟨rfl,rfl⟩ := hc
    have hg := hρ rc
    rw [he] at hg
    generalize hgv : a.eval rc = gv at hg
    cases hg with
    | ifc _ _ v1' h1 =>
    obtain ⟨v',h1',hrun0⟩ := method_run (P := P) H h1 hm (P.types.size + 99)
    have hrel : RelL σ (r0 :: xs.toList.map ρ) (v' :: xs.toList.map a.eval) := by
     have h2 := RelL.app (l := [r0]) (vs := [v']) ⟨rfl,fun i a b ha hb => by
      cases i with
      | zero => simp only [List.getElem?_cons_zero,Option.some.injEq] at ha hb; rw [← ha,← hb]; exact h1'
      | succ i => simp at ha⟩ (map_relL hρ xs.toList)
     exact h2
    have hk := hk _ hrel
    unfold CalleeOk at hk
    rw [if_pos om,show 2 * f' / 2 = f' by omega] at hk
    obtain ⟨⟨fn,c,c1,c2,c3⟩,hcall⟩ := hk
    have hrun : (execOp a.eval ⟨dst,.call ⟨.invoke rc name,xs,tys⟩,oty,pos,after,guard⟩).run P w = .ok (.enter f' (v' :: xs.toList.map a.eval).toArray) w := by
     have hpr : (program).run P w = .ok P w := by simp [program,Sem.run]
     have e : #[v'] ++ Array.extract (#[Value.iface t v1'] ++ xs.map a.eval) 1 (#[Value.iface t v1'] ++ xs.map a.eval).size = (v' :: xs.toList.map a.eval).toArray := by
      apply Array.ext'
      simp
      exact List.take_of_length_le (by simp)
     have e0 : (#[Value.iface t v1'] ++ xs.map a.eval)[0]? = some (.iface t v1') := by
      rw [Array.getElem?_append_left (by simp)]
      rfl
     have e1 : (callMethod (.iface t v1') name (Array.extract (#[Value.iface t v1'] ++ xs.map a.eval) 1 (#[Value.iface t v1'] ++ xs.map a.eval).size)).run P w = .ok (.enter f' (v' :: xs.toList.map a.eval).toArray) w := by
      simp only [callMethod,Sem.run_bind,hpr,Result.andThen_ok,show P.types.size + Made.depth = (P.types.size + 99) + 1 from rfl,hrun0]
      rw [e]
      exact K.run_callFunc c1 c2 c3
     simp only [execOp,resolve,hgv,Sem.run_bind,Sem.run_pure,Result.andThen_ok,invoke,e0]
     exact e1
    rw [semAt_run hrun (fun d hd => by cases hd),Oper.uponIn_enter]
    refine ⟨fun h => (by cases h),?_⟩
    have h1 : CallsIn Fence.wide 0 P f' _ w R := callsIn_wide.2 hcall
    have h2 : CallsIn (fen ro) 0 P f' _ w R := h1
    refine h2.mono fun e w' he => ?_
    obtain ⟨v',rfl,hn⟩ := hR e w' he
    exact hn
   ·cases hc
  ·cases hc
 ·cases hc
theorem astep_ok {ρ : Operand → AV} {ev : Operand → Value} {o : Oper} {a h' : AV} {nx' : Nat} (H : HS σ h nx w0 B w) (hfv : ∀ f,ev (.func f) = .func (.func f) #[] #[]) (hρ : ∀ x,Rel σ (ρ x) (ev x)) (ha : astep P ρ h nx o = some (.val a h' nx')) :
  StepOk P σ h nx w0 B w (execOp ev o) a h' nx' := by
 unfold astep at ha
 split at ha
 ·rename_i v hv
  simp only [Option.some.injEq,SR.val.injEq] at ha
  obtain ⟨rfl,rfl,rfl⟩ := ha
  obtain ⟨u,h1,h2⟩ := apure_ok (P := P) (w := w) hρ hv
  exact ⟨σ,u,w,SubX.refl nx σ,Dk.refl nx h,Nat.le_refl _,.inl h2,h1,H⟩
 ·split at ha
  ·rename_i v hv
   simp only [Option.some.injEq,SR.val.injEq] at ha
   obtain ⟨rfl,rfl,rfl⟩ := ha
   obtain ⟨u,h1,h2⟩ := aread_ok (P := P) H hρ hv
   exact ⟨σ,u,w,SubX.refl nx σ,Dk.refl nx h,Nat.le_refl _,.inl h2,h1,H⟩
  ·split at ha
   ·rename_i nv x hv
    cases hb : Nat.blt nx (2 ^ HD) with
    | false => simp [hb] at ha
    | true =>
     simp only [hb,cond_true,Option.some.injEq,SR.val.injEq] at ha
     obtain ⟨rfl,rfl,rfl⟩ := ha
     obtain ⟨p,u,w',h1,h2,h3⟩ := anew_ok (P := P) H (blt_iff.1 hb) hρ hv
     exact ⟨_,u,w',H.subX p,dkNew (blt_iff.1 hb),Nat.le_succ _,.inl h1,h2,h3⟩
   ·split at ha
    ·rename_i v h1 nx1 hv
     simp only [Option.some.injEq,SR.val.injEq] at ha
     obtain ⟨rfl,rfl,rfl⟩ := ha
     exact aeff_ok H hfv hρ hv
    ·split at ha
     ·cases ha
     ·cases ha
theorem astep_call {ρ : Operand → AV} {o : Oper} {f : Nat} {args : List AV} (ha : astep P ρ h nx o = some (.call f args)) : acallee P ρ h o = some (f,args) := by
 unfold astep at ha
 split at ha
 ·cases ha
 ·split at ha
  ·cases ha
  ·split at ha
   ·rename_i nv x hv
    cases hb : Nat.blt nx (2 ^ HD) <;> simp [hb] at ha
   ·split at ha
    ·cases ha
    ·split at ha
     ·rename_i f' args' hc
      simp only [Option.some.injEq,SR.call.injEq] at ha
      obtain ⟨rfl,rfl⟩ := ha
      exact hc
     ·cases ha
end
end I
end Go.Proofs.YtinhinjpfmdfiaaGreatDoor
namespace Go.Proofs.YtinhinjpfmdfiaaGreatDoor
namespace I
open K (one aggB run_underlying' run_sizeOf' add_none run_v cell_cells)
set_option linter.unusedVariables false
theorem cput_comm : ∀ (d : Nat) (t : AV) (i j : Nat) (x y : AV),i < 2 ^ d → j < 2 ^ d → i ≠ j → cput d (cput d t i x) j y = cput d (cput d t j y) i x
 | 0,t,i,j,x,y,hi,hj,hne => by simp only [Nat.pow_zero] at hi hj; omega
 | d + 1,t,i,j,x,y,hi,hj,hne => by
  have hp : 2 ^ (d + 1) = 2 ^ d + 2 ^ d := by rw [Nat.pow_succ]; omega
  cases h1 : Nat.blt i (2 ^ d) <;> cases h2 : Nat.blt j (2 ^ d) <;> simp only [cput,h1,h2,cond_true,cond_false,kidL,kidR]
  ·have a1 := blt_false.1 h1
   have a2 := blt_false.1 h2
   rw [cput_comm d _ _ _ x y om om om]
  ·have a1 := blt_iff.1 h1
   have a2 := blt_iff.1 h2
   rw [cput_comm d _ _ _ x y a1 a2 hne]
def beqA : AV → AV → Bool
 | .undef,.undef => true
 | .bool a,.bool b => a == b
 | .int k a,.int k' b => Nat.beq (kn k) (kn k') && ieq a b
 | .str n x,.str m y => Nat.beq n m && Nat.beq x y
 | .nilp,.nilp => true
 | .ptr a b,.ptr c d => Nat.beq a c && Nat.beq b d
 | .nils,.nils => true
 | .sl a b c d e,.sl a' b' c' d' e' => Nat.beq a a' && (Nat.beq b b' && (Nat.beq c c' && (Nat.beq d d' && Nat.beq e e')))
 | .nilm,.nilm => true
 | .map a,.map b => Nat.beq a b
 | .nilf,.nilf => true
 | .fn f a b,.fn g c d => Nat.beq f g && (beqA a c && beqA b d)
 | .nili,.nili => true
 | .yld a,.yld b => Nat.beq a b
 | .ifc t a,.ifc u b => Nat.beq t u && beqA a b
 | .agg n t,.agg m u => Nat.beq n m && beqA t u
 | .tup a,.tup b => beqA a b
 | .lnil,.lnil => true
 | .lcons a b,.lcons c d => beqA a c && beqA b d
 | .node a b,.node c d => beqA a c && beqA b d
 | .uni a,.uni b => beqA a b
 | .byt x,.byt y => Nat.beq x y
 | _,_ => false
theorem beqA_ok : ∀ (x y : AV),beqA x y = true → x = y := by
 intro x
 induction x with
 | bad => intro y h; cases y <;> simp [beqA] at h
 | undef => intro y h; cases y <;> simp [beqA] at h; rfl
 | bool b => intro y h; cases y <;> simp [beqA] at h; rw [h]
 | int k n =>
  intro y h
  cases y <;> simp only [beqA,Bool.and_eq_true,Bool.false_eq_true] at h
  obtain ⟨h1,h2⟩ := h
  rw [ieq_eq] at h2
  rw [kn_inj h1,of_decide_eq_true h2]
 | str n x => intro y h; cases y <;> simp only [beqA,Bool.and_eq_true,Bool.false_eq_true] at h; rw [beqn_iff.1 h.1,beqn_iff.1 h.2]
 | nilp => intro y h; cases y <;> simp [beqA] at h; rfl
 | ptr a b => intro y h; cases y <;> simp only [beqA,Bool.and_eq_true,Bool.false_eq_true] at h; rw [beqn_iff.1 h.1,beqn_iff.1 h.2]
 | nils => intro y h; cases y <;> simp [beqA] at h; rfl
 | sl a b c d e => intro y h; cases y <;> simp only [beqA,Bool.and_eq_true,Bool.false_eq_true] at h; rw [beqn_iff.1 h.1,beqn_iff.1 h.2.1,beqn_iff.1 h.2.2.1,beqn_iff.1 h.2.2.2.1,beqn_iff.1 h.2.2.2.2]
 | nilm => intro y h; cases y <;> simp [beqA] at h; rfl
 | map a => intro y h; cases y <;> simp only [beqA,Bool.false_eq_true] at h; rw [beqn_iff.1 h]
 | nilf => intro y h; cases y <;> simp [beqA] at h; rfl
 | fn f a b iha ihb => intro y h; cases y <;> simp only [beqA,Bool.and_eq_true,Bool.false_eq_true] at h; rw [beqn_iff.1 h.1,iha _ h.2.1,ihb _ h.2.2]
 | nili => intro y h; cases y <;> simp [beqA] at h; rfl
 | ifc t a iha => intro y h; cases y <;> simp only [beqA,Bool.and_eq_true,Bool.false_eq_true] at h; rw [beqn_iff.1 h.1,iha _ h.2]
 | agg n t iht => intro y h; cases y <;> simp only [beqA,Bool.and_eq_true,Bool.false_eq_true] at h; rw [beqn_iff.1 h.1,iht _ h.2]
 | tup a iha => intro y h; cases y <;> simp only [beqA,Bool.false_eq_true] at h; rw [iha _ h]
 | lnil => intro y h; cases y <;> simp [beqA] at h; rfl
 | lcons a b iha ihb => intro y h; cases y <;> simp only [beqA,Bool.and_eq_true,Bool.false_eq_true] at h; rw [iha _ h.1,ihb _ h.2]
 | node a b iha ihb => intro y h; cases y <;> simp only [beqA,Bool.and_eq_true,Bool.false_eq_true] at h; rw [iha _ h.1,ihb _ h.2]
 | uni a iha => intro y h; cases y <;> simp only [beqA,Bool.false_eq_true] at h; rw [iha _ h]
 | byt a => intro y h; cases y <;> simp only [beqA,Bool.false_eq_true] at h; rw [beqn_iff.1 h]
 | dead => intro y h; cases y <;> simp [beqA] at h
 | cells ty n ro t _ => intro y h; cases y <;> simp [beqA] at h
 | mp l _ => intro y h; cases y <;> simp [beqA] at h
 | yld b => intro y h; cases y <;> simp only [beqA,Bool.false_eq_true] at h; rw [beqn_iff.1 h]
 | lp n ps assign body tm st pend db _ => intro y h; cases y <;> simp [beqA] at h
 | df => intro y h; cases y <;> simp [beqA] at h
 | mth s a _ => intro y h; cases y <;> simp [beqA] at h
def snap (n d : Nat) (tm : AV) : List Nat → List AV
 | [] => []
 | t :: l => (bif Nat.blt t n then cget d tm t else .undef) :: snap n d tm l
def pickS (t : Nat) : List Nat → List AV → AV
 | s :: l,v :: vs => bif Nat.beq s t then v else pickS t l vs
 | _,_ => .bad
def opndS (G : Nat) (ls : List Nat) (vs : List AV) : Operand → AV
 | .tmp t => pickS t ls vs
 | .const v => ofConst v
 | .global g => bif Nat.blt g G then .ptr g 0 else .bad
 | .func f => .fn f .lnil .lnil
section
variable {P : Program} {σ : Sg} {G n d : Nat} {tm : AV} {a : Act}
theorem pickS_ok {ds : List Deferred} (hs : SlotRel ds σ n d tm a) (t : Nat) : ∀ (l : List Nat),Rel σ (pickS t l (snap n d tm l)) (a.eval (.tmp t))
 | [] => .bad _
 | s :: l => by
  simp only [snap,pickS]
  cases hb : Nat.beq s t with
  | false => simp only [cond_false]; exact pickS_ok hs t l
  | true =>
   have := beqn_iff.1 hb
   subst this
   simp only [cond_true]
   exact opnd_ok (G := 0) hs (fun g hg => by omega) (.tmp s)
theorem opndS_ok {ds : List Deferred} (hs : SlotRel ds σ n d tm a) (hg : GRel σ G) (l : List Nat) (x : Operand) : Rel σ (opndS G l (snap n d tm l) x) (a.eval x) := by
 cases x with
 | tmp t => exact pickS_ok hs t l
 | const v => exact opnd_ok hs hg (.const v)
 | global g => exact opnd_ok hs hg (.global g)
 | func f => exact opnd_ok hs hg (.func f)
theorem snap_put {dst : Option Nat} {v : AV} (hn : n ≤ 2 ^ d) : ∀ {l : List Nat},(∀ t,dst = some t → t ∉ l) → snap n d (putA n d tm dst v) l = snap n d tm l
 | [],_ => rfl
 | s :: l,h => by
  simp only [snap]
  rw [snap_put hn (l := l) (fun t ht hm => h t ht (List.mem_cons_of_mem _ hm))]
  congr 1
  cases dst with
  | none => rfl
  | some t =>
   have hne : s ≠ t := fun e => h t rfl (by rw [e]; exact List.mem_cons_self ..)
   cases hb : Nat.blt s n with
   | false => rfl
   | true =>
    have hs := blt_iff.1 hb
    simp only [cond_true,putA]
    cases hc : Nat.blt t n with
    | false => rfl
    | true =>
     have ht := blt_iff.1 hc
     simp only [cond_true]
     rw [cget_cput d tm t s v om om,if_neg hne]
theorem wantA_put {dst : Option Nat} {v : AV} (hn : n ≤ 2 ^ d) {ops : Array Oper} {o : Oper} (h : ∀ t,dst = some t → t ∉ o.looksAt ops) : wantA n d ops (putA n d tm dst v) o = wantA n d ops tm o := by
 unfold wantA
 split
 ·rfl
 ·rename_i j want hg
  split
  ·rfl
  ·rename_i t ht
   have hmem : t ∈ o.looksAt ops := by
    unfold Oper.looksAt
    rw [hg]
    simp [ht]
   cases hb : Nat.blt t n with
   | false => rfl
   | true =>
    simp only [cond_true]
    have hlt := blt_iff.1 hb
    have : cget d (putA n d tm dst v) t = cget d tm t := by
     cases dst with
     | none => rfl
     | some u =>
      have hne : t ≠ u := fun e => h u rfl (e ▸ hmem)
      simp only [putA]
      cases hc : Nat.blt u n with
      | false => rfl
      | true =>
       have hu := blt_iff.1 hc
       simp only [cond_true]
       rw [cget_cput d tm u t v om om,if_neg hne]
    rw [this]
theorem putA_comm {i j : Option Nat} {x y : AV} (hn : n ≤ 2 ^ d) (h : ∀ t,i = some t → j ≠ some t) : putA n d (putA n d tm i x) j y = putA n d (putA n d tm j y) i x := by
 cases i with
 | none => rfl
 | some s =>
  cases j with
  | none => rfl
  | some t =>
   have hne : s ≠ t := fun e => h s rfl (by rw [e])
   simp only [putA]
   cases hb : Nat.blt s n <;> cases hc : Nat.blt t n <;> simp only [cond_true,cond_false]
   exact cput_comm d tm s t x y (by have := blt_iff.1 hb; omega) (by have := blt_iff.1 hc; omega) hne
end
end I
end Go.Proofs.YtinhinjpfmdfiaaGreatDoor
namespace Go.Proofs.YtinhinjpfmdfiaaGreatDoor
namespace I
open K (one aggB run_underlying' run_sizeOf' add_none run_v cell_cells)
set_option linter.unusedVariables false
def quietK (o : Oper) : Bool :=
 match o.op with
 | .store .. | .mapUpdate .. | .insert .. | .entryStore .. | .mapEntry .. | .range .. | .next .. | .entry .. | .go .. | .defer .. | .panic .. | .send .. | .recv .. | .select .. | .makeChan .. | .ready .. | .waits .. => false
 | .call ⟨.builtin .len,_,_⟩ | .call ⟨.builtin .cap,_,_⟩ | .call ⟨.builtin .max,_,_⟩ | .call ⟨.builtin .min,_,_⟩ | .call ⟨.builtin .unsafeSliceData,_,_⟩ => true
 | .call _ => false
 | _ => true
structure D where
 tm : AV
 h : AV
 nx : Nat
 pt : AV
 wt : AV
abbrev KF := Nat → List AV → AV → Nat → Option (AV × AV × Nat)
structure DC where
 P : Program
 G : Nat
 n : Nat
 d : Nat
 K : KF
 ops : Array Oper
 nx0 : Nat
 pd : Nat
def ancN (ops : Array Oper) : Nat → Nat → List Nat
 | 0,_ => []
 | k + 1,j => match ops[j]? with
  | none => []
  | some o => o.after.toList.flatMap fun e => bif Region.binds .any e then e.on :: ancN ops k e.on else []
def merge (pd nx0 : Nat) : List Nat → AV → AV → AV × AV
 | [],h,pt => (h,pt)
 | j :: l,h,pt => bif live (cget pd pt j) && Nat.blt j (2 ^ pd) then merge pd nx0 l (cput HD h (nx0 + j) (cget pd pt j)) (cput pd pt j .undef) else merge pd nx0 l h pt
def chkW (C : DC) (h wt : AV) : List Nat → Bool
 | [] => true
 | k :: l => (match cget C.pd wt k with
  | .lcons vs v => match C.ops[k]? with
   | some o => match aread C.P (opndS C.G (o.looksAt C.ops) (toList vs)) h o with
    | some v' => beqA v v'
    | none => false
   | none => false
  | _ => true) && chkW C h wt l
def put1 (C : DC) (s : D) (o : Oper) (v : AV) : D := { s with tm := putA C.n C.d s.tm o.dst v }
structure QE where
 v : AV
 w : Option AV
 p : Option AV
def optput (d i : Nat) (t : AV) : Option AV → AV
 | none => t
 | some x => cput d t i x
def QE.app (C : DC) (q : QE) (s : D) (i : Nat) (o : Oper) : D :=
 { s with tm := putA C.n C.d s.tm o.dst q.v,wt := optput C.pd i s.wt q.w,pt := optput C.pd i s.pt q.p }
def qeff (C : DC) (vs : List AV) (h : AV) (i : Nat) (o : Oper) : Option QE :=
 let ρ := opndS C.G (o.looksAt C.ops) vs
 match apure C.P ρ o with
 | some v => some ⟨v,none,none⟩
 | none => match anew C.P ρ o with
  | some (nv,x) => some ⟨nv.at (C.nx0 + i),none,some x⟩
  | none => match aread C.P ρ h o with
   | some v => some ⟨v,some (.lcons (ofList vs) v),none⟩
   | none => none
def quiet1 (C : DC) (s : D) (i : Nat) (o : Oper) : Option D :=
 match qeff C (snap C.n C.d s.tm (o.looksAt C.ops)) s.h i o with
 | some q => some (q.app C s i o)
 | none => none
def others (C : DC) (i : Nat) : List Nat := let a := ancN C.ops C.ops.size i; (List.range C.ops.size).filter fun k => !(a.any (Nat.beq k))
theorem mem_others {C : DC} {i k : Nat} : k ∈ others C i ↔ k < C.ops.size ∧ k ∉ ancN C.ops C.ops.size i := by
 unfold others
 simp only [List.mem_filter,List.mem_range,Bool.not_eq_true',List.any_eq_false]
 constructor
 ·rintro ⟨h1,h2⟩
  exact ⟨h1,fun hm => h2 k hm (Nat.beq_refl k)⟩
 ·rintro ⟨h1,h2⟩
  refine ⟨h1,fun x hx hb => h2 ?_⟩
  have : k = x := Nat.eq_of_beq_eq_true hb
  rw [this]; exact hx
def eff1 (C : DC) (s : D) (i : Nat) (o : Oper) : Option D :=
 let ρ := opndS C.G (o.looksAt C.ops) (snap C.n C.d s.tm (o.looksAt C.ops))
 let m := merge C.pd C.nx0 (ancN C.ops C.ops.size i) s.h s.pt
 let r := match aeff C.P ρ m.1 s.nx o with
  | some r => some r
  | none => match acallee C.P ρ m.1 o with
   | some (f,args) => C.K f args m.1 s.nx
   | none => none
 match r with
 | some (v,h',nx') => bif chkW C h' s.wt (others C i) then some { tm := putA C.n C.d s.tm o.dst v,h := h',nx := nx',pt := m.2,wt := s.wt } else none
 | none => none
def dstep (C : DC) (s : D) (i : Nat) (o : Oper) : Option D :=
 match wantA C.n C.d C.ops s.tm o with
 | none => none
 | some false => some (put1 C s o .undef)
 | some true => bif quietK o then quiet1 C s i o else eff1 C s i o
section
variable {C : DC}
theorem merge_put {pd nx0 i : Nat} {x : AV} (hi : i < 2 ^ pd) : ∀ {l : List Nat} {h pt : AV},i ∉ l → merge pd nx0 l h (cput pd pt i x) = ((merge pd nx0 l h pt).1,cput pd (merge pd nx0 l h pt).2 i x)
 | [],h,pt,_ => rfl
 | j :: l,h,pt,hn => by
  have hji : j ≠ i := fun e => hn (by rw [e]; exact List.mem_cons_self ..)
  have hnl : i ∉ l := fun hm => hn (List.mem_cons_of_mem _ hm)
  simp only [merge]
  cases hb : Nat.blt j (2 ^ pd) with
  | false => simp only [Bool.and_false,cond_false]; exact merge_put hi hnl
  | true =>
   have hj := blt_iff.1 hb
   rw [cget_cput pd pt i j x hi hj,if_neg hji]
   cases hl : live (cget pd pt j) with
   | false => simp only [Bool.false_and,cond_false]; exact merge_put hi hnl
   | true =>
    simp only [Bool.and_self,cond_true]
    rw [cput_comm pd pt i j x .undef hi hj (fun e => hji e.symm)]
    exact merge_put hi hnl
theorem chkW_put {h wt e : AV} {i : Nat} (hi : i < 2 ^ C.pd) (h0 : cget C.pd wt i = .undef) : ∀ {l : List Nat},(∀ k ∈ l,k < 2 ^ C.pd) → chkW C h (cput C.pd wt i e) l = true → chkW C h wt l = true
 | [],_,_ => rfl
 | k :: l,hl,hc => by
  simp only [chkW,Bool.and_eq_true] at hc ⊢
  refine ⟨?_,chkW_put hi h0 (fun k hk => hl k (List.mem_cons_of_mem _ hk)) hc.2⟩
  have hk := hl k (List.mem_cons_self ..)
  by_cases hki : k = i
  ·rw [hki,h0]
  ·have := hc.1
   rw [cget_cput C.pd wt i k e hi hk,if_neg hki] at this
   exact this
theorem chkW_get {h wt : AV} {i : Nat} {vs v : AV} : ∀ {l : List Nat},i ∈ l → cget C.pd wt i = .lcons vs v → chkW C h wt l = true → ∃ o,C.ops[i]? = some o ∧ aread C.P (opndS C.G (o.looksAt C.ops) (toList vs)) h o = some v
 | [],hm,_,_ => by cases hm
 | k :: l,hm,he,hc => by
  simp only [chkW,Bool.and_eq_true] at hc
  rcases List.mem_cons.1 hm with rfl | hm
  ·have := hc.1
   rw [he] at this
   simp only at this
   split at this
   ·rename_i o ho
    refine ⟨o,ho,?_⟩
    split at this
    ·rename_i v' hv'
     rw [hv',beqA_ok _ _ this]
    ·cases this
   ·cases this
  ·exact chkW_get hm he hc.2
def Clean (C : DC) (s : D) (i : Nat) : Prop := cget C.pd s.wt i = .undef ∧ cget C.pd s.pt i = .undef
theorem dstep_clean {s s' : D} {i j : Nat} {o : Oper} (hi : i < 2 ^ C.pd) (hj : j < 2 ^ C.pd) (hne : j ≠ i) (hc : Clean C s i) (hs : dstep C s j o = some s') : Clean C s' i := by
 have hmerge : ∀ (l : List Nat) (h pt : AV),cget C.pd pt i = .undef → cget C.pd (merge C.pd C.nx0 l h pt).2 i = .undef := by
  intro l
  induction l with
  | nil => intro h pt hp; exact hp
  | cons k l ih =>
   intro h pt hp
   simp only [merge]
   cases hb : (live (cget C.pd pt k) && Nat.blt k (2 ^ C.pd)) with
   | false => exact ih _ _ hp
   | true =>
    simp only [Bool.and_eq_true] at hb
    refine ih _ _ ?_
    rw [cget_cput C.pd pt k i .undef (blt_iff.1 hb.2) hi]
    split
    ·rfl
    ·exact hp
 unfold dstep at hs
 split at hs
 ·cases hs
 ·simp only [Option.some.injEq] at hs; subst hs; exact hc
 ·cases hq : quietK o with
  | true =>
   simp only [hq,cond_true,quiet1] at hs
   split at hs
   ·rename_i q hqe
    simp only [Option.some.injEq] at hs; subst hs
    refine ⟨?_,?_⟩
    ·show cget C.pd (optput C.pd j s.wt q.w) i = .undef
     cases q.w with
     | none => exact hc.1
     | some e => simp only [optput]; rw [cget_cput C.pd s.wt j i _ hj hi,if_neg (fun e => hne e.symm)]; exact hc.1
    ·show cget C.pd (optput C.pd j s.pt q.p) i = .undef
     cases q.p with
     | none => exact hc.2
     | some e => simp only [optput]; rw [cget_cput C.pd s.pt j i _ hj hi,if_neg (fun e => hne e.symm)]; exact hc.2
   ·cases hs
  | false =>
   simp only [hq,cond_false,eff1] at hs
   split at hs
   ·rename_i v h' nx' hr
    cases hk : chkW C h' s.wt (others C j) with
    | false => simp [hk] at hs
    | true =>
     simp only [hk,cond_true,Option.some.injEq] at hs
     subst hs
     exact ⟨hc.1,hmerge _ _ _ hc.2⟩
   ·cases hs
theorem optput_comm {d i j : Nat} {t : AV} {x y : Option AV} (hi : i < 2 ^ d) (hj : j < 2 ^ d) (hne : i ≠ j) : optput d j (optput d i t x) y = optput d i (optput d j t y) x := by
 cases x <;> cases y <;> simp only [optput]
 exact cput_comm d t i j _ _ hi hj hne
theorem app_comm {q r : QE} {s : D} {i j : Nat} {oi oj : Oper} (hn : C.n ≤ 2 ^ C.d) (hi : i < 2 ^ C.pd) (hj : j < 2 ^ C.pd) (hne : i ≠ j) (hd : ∀ d,oi.dst = some d → oj.dst ≠ some d) : r.app C (q.app C s i oi) j oj = q.app C (r.app C s j oj) i oi := by
 simp only [QE.app]
 rw [putA_comm hn hd,optput_comm hi hj hne,optput_comm hi hj hne]
theorem qeff_h {vs : List AV} {h h' : AV} {i : Nat} {o : Oper} {q : QE} (hq : qeff C vs h i o = some q) (hr : ∀ v,q.w = some (.lcons (ofList vs) v) → aread C.P (opndS C.G (o.looksAt C.ops) vs) h' o = some v) : qeff C vs h' i o = some q := by
 unfold qeff at hq ⊢
 dsimp only at hq ⊢
 split
 ·rename_i v hv
  rw [hv] at hq; exact hq
 ·rename_i hv
  rw [hv] at hq
  simp only at hq
  split
  ·rename_i nv x hx
   rw [hx] at hq; exact hq
  ·rename_i hx
   rw [hx] at hq
   simp only at hq
   split at hq
   ·rename_i v hv'
    simp only [Option.some.injEq] at hq
    subst hq
    rw [hr v rfl]
   ·cases hq
theorem dstep_quiet {s s' : D} {i : Nat} {o : Oper} (hq : quietK o = true) (hs : dstep C s i o = some s') :
  ∃ q : QE,s' = q.app C s i o ∧ (∀ v,q.w = some (.lcons (ofList (snap C.n C.d s.tm (o.looksAt C.ops))) v) → aread C.P (opndS C.G (o.looksAt C.ops) (snap C.n C.d s.tm (o.looksAt C.ops))) s.h o = some v) ∧
   ∀ t : D,wantA C.n C.d C.ops t.tm o = wantA C.n C.d C.ops s.tm o → snap C.n C.d t.tm (o.looksAt C.ops) = snap C.n C.d s.tm (o.looksAt C.ops) →
   (∀ v,q.w = some (.lcons (ofList (snap C.n C.d s.tm (o.looksAt C.ops))) v) → aread C.P (opndS C.G (o.looksAt C.ops) (snap C.n C.d s.tm (o.looksAt C.ops))) t.h o = some v) → dstep C t i o = some (q.app C t i o) := by
 unfold dstep at hs
 split at hs
 ·cases hs
 ·rename_i hw
  simp only [Option.some.injEq] at hs
  refine ⟨⟨.undef,none,none⟩,hs.symm,fun v hv => (by cases hv),fun t h1 _ _ => ?_⟩
  unfold dstep
  rw [h1,hw]
  rfl
 ·rename_i hw
  simp only [hq,cond_true,quiet1] at hs
  split at hs
  ·rename_i q hqe
   simp only [Option.some.injEq] at hs
   refine ⟨q,hs.symm,fun v hv => ?_,fun t h1 h2 h3 => ?_⟩
   ·unfold qeff at hqe
    dsimp only at hqe
    split at hqe
    ·simp only [Option.some.injEq] at hqe; rw [← hqe] at hv; cases hv
    ·split at hqe
     ·simp only [Option.some.injEq] at hqe; rw [← hqe] at hv; cases hv
     ·split at hqe
      ·rename_i u hu
       simp only [Option.some.injEq] at hqe
       rw [← hqe] at hv
       simp only [Option.some.injEq,AV.lcons.injEq,true_and] at hv
       rw [← hv]; exact hu
      ·cases hqe
   ·unfold dstep
    rw [h1,hw]
    simp only [hq,cond_true,quiet1]
    rw [h2,qeff_h hqe h3]
  ·cases hs
theorem diamond {s s1 s2 : D} {i j : Nat} {oi oj : Oper} (hn : C.n ≤ 2 ^ C.d) (hii : C.ops[i]? = some oi) (hjj : C.ops[j]? = some oj) (hpd : C.ops.size ≤ 2 ^ C.pd) (hne : i ≠ j) (hc : Clean C s i) (hq : quietK oi = true) (hap : oi.apart C.ops oj = true) (hanc : i ∉ ancN C.ops C.ops.size j)
  (h1 : dstep C s i oi = some s1) (h2 : dstep C s1 j oj = some s2) : ∃ s',dstep C s j oj = some s' ∧ dstep C s' i oi = some s2 := by
 obtain ⟨a1,a2,a3⟩ := Oper.apart_spec hap
 have hin : i < C.ops.size := (Array.getElem?_eq_some_iff.1 hii).1
 have hjn : j < C.ops.size := (Array.getElem?_eq_some_iff.1 hjj).1
 have hi : i < 2 ^ C.pd := by omega
 have hj : j < 2 ^ C.pd := by omega
 have hrange : ∀ k ∈ others C j,k < 2 ^ C.pd := fun k hk => by have := (mem_others.1 hk).1; omega
 obtain ⟨q,rfl,hread0,hQ⟩ := dstep_quiet hq h1
 have hwant : wantA C.n C.d C.ops (q.app C s i oi).tm oj = wantA C.n C.d C.ops s.tm oj := wantA_put hn a1
 have hsnap : snap C.n C.d (q.app C s i oi).tm (oj.looksAt C.ops) = snap C.n C.d s.tm (oj.looksAt C.ops) := snap_put hn a1
 have hback : ∀ (t : D) (y : AV),t.tm = putA C.n C.d s.tm oj.dst y → (∀ v,q.w = some (.lcons (ofList (snap C.n C.d s.tm (oi.looksAt C.ops))) v) → aread C.P (opndS C.G (oi.looksAt C.ops) (snap C.n C.d s.tm (oi.looksAt C.ops))) t.h oi = some v) → dstep C t i oi = some (q.app C t i oi) := by
  intro t y ht hr
  refine hQ t ?_ ?_ hr
  ·rw [ht]; exact wantA_put hn a3
  ·rw [ht]; exact snap_put hn a3
 cases hqj : quietK oj with
 | true =>
  obtain ⟨r,rfl,hrj,hR⟩ := dstep_quiet hqj h2
  rw [hsnap] at hR hrj
  have hs' : dstep C s j oj = some (r.app C s j oj) := hR s hwant.symm rfl hrj
  refine ⟨_,hs',?_⟩
  rw [hback (r.app C s j oj) r.v rfl hread0,app_comm hn hi hj hne a2]
 | false =>
  unfold dstep at h2 ⊢
  rw [hwant] at h2
  split at h2
  ·cases h2
  ·rename_i hw
   simp only [Option.some.injEq] at h2
   refine ⟨put1 C s oj .undef,rfl,?_⟩
   have := hback (put1 C s oj .undef) .undef rfl hread0
   unfold dstep at this
   rw [this,← h2]
   simp only [QE.app,put1]
   rw [putA_comm hn (fun d hd he => a2 d he hd)]
  ·rename_i hw
   simp only [hqj,cond_false,eff1] at h2
   rw [hsnap] at h2
   have hm : merge C.pd C.nx0 (ancN C.ops C.ops.size j) (q.app C s i oi).h (q.app C s i oi).pt = ((merge C.pd C.nx0 (ancN C.ops C.ops.size j) s.h s.pt).1,optput C.pd i (merge C.pd C.nx0 (ancN C.ops C.ops.size j) s.h s.pt).2 q.p) := by
    simp only [QE.app]
    cases q.p with
    | none => rfl
    | some x => simp only [optput]; exact merge_put hi hanc
   rw [hm] at h2
   split at h2
   ·rename_i v h' nx' hr
    cases hk : chkW C h' (q.app C s i oi).wt (others C j) with
    | false => simp [hk] at h2
    | true =>
     simp only [hk,cond_true,Option.some.injEq] at h2
     have hk' : chkW C h' s.wt (others C j) = true := by
      cases hqw : q.w with
      | none => simp only [QE.app,hqw,optput] at hk; exact hk
      | some e => simp only [QE.app,hqw,optput] at hk; exact chkW_put hi hc.1 hrange hk
     refine ⟨{ tm := putA C.n C.d s.tm oj.dst v,h := h',nx := nx',pt := (merge C.pd C.nx0 (ancN C.ops C.ops.size j) s.h s.pt).2,wt := s.wt },?_,?_⟩
     ·simp only [hqj,cond_false,eff1]
      have hr' := hr
      simp only [QE.app] at hr'
      rw [hr']
      simp only [hk',cond_true]
     ·have := hback { tm := putA C.n C.d s.tm oj.dst v,h := h',nx := nx',pt := (merge C.pd C.nx0 (ancN C.ops C.ops.size j) s.h s.pt).2,wt := s.wt } v rfl (fun u hu => by
       have hg : cget C.pd (q.app C s i oi).wt i = .lcons (ofList (snap C.n C.d s.tm (oi.looksAt C.ops))) u := by
        simp only [QE.app,hu,optput]
        rw [cget_cput C.pd _ i i _ hi hi,if_pos rfl]
       obtain ⟨o',ho',hrd⟩ := chkW_get (mem_others.2 ⟨hin,hanc⟩) hg hk
       rw [hii] at ho'
       simp only [Option.some.injEq] at ho'
       subst ho'
       rw [toList_ofList] at hrd
       exact hrd)
      unfold dstep at this
      rw [this,← h2]
      simp only [QE.app]
      rw [putA_comm hn (fun d hd he => a2 d he hd)]
   ·cases h2
end
end I
end Go.Proofs.YtinhinjpfmdfiaaGreatDoor
