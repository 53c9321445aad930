/- Texts on which the proof of this claim stands: ShaR1, ShaR2, Pk6, Pk7a. -/
import Derived.Test.YtbeegepcdglcaaaGreatDoorP4
import Derived.Test.YtbeegepcdglcaaaGreatDoorP1
import Derived.Test.YtbeegepcdglcaaaGreatDoorP6
import Derived.Test.YtbeegepcdglcaaaGreatDoorP5
namespace Go.Proofs.YtbeegepcdglcaaaGreatDoor
open K
set_option linter.unusedVariables false
theorem tm_lt (x : Int) : (x % 4294967296).toNat < 2 ^ 32 := by omega
theorem rotr_or (x a b : Nat) : (x / b) ||| (x * a % 4294967296) = rotl x a b := Nat.or_comm _ _
def ck (l : List UInt8) (q : Nat) : List UInt8 := (l.drop (64 * q)).take 64
theorem ck_get {l : List UInt8} {q j i : Nat} (hj : j < 64) (hi : i = 64 * q + j) : bt4 (ck l q) j = (l.getD i 0).toNat := by
 unfold bt4 ck
 rw [List.getD_eq_getElem?_getD,List.getElem?_take,if_pos hj,List.getElem?_drop,List.getD_eq_getElem?_getD,hi]
def LB (s : ByteArray) (j : Nat) : List UInt8 := s.data.toList ++ (128 :: List.replicate j 0)
def LC (s : ByteArray) (k : Nat) : List UInt8 := LB s ((119 - s.size % 64) % 64) ++ (List.range k).map (tb (lb s.size))
theorem bv_snoc (l : List UInt8) (c : UInt8) : (bv l).toList ++ [Value.int .u8 (c.toNat : Int)] = (bv (l ++ [c])).toList := by rw [← bv_app]; rfl
theorem lb_start (s : ByteArray) : (bv s.data.toList).toList ++ [Value.int .u8 128] = (bv (LB s 0)).toList := bv_snoc s.data.toList 128
theorem lb_step (s : ByteArray) (j : Nat) : (bv (LB s j)).toList ++ [Value.int .u8 0] = (bv (LB s (j + 1))).toList := by
 have := bv_snoc (LB s j) 0
 rw [show LB s (j + 1) = LB s j ++ [0] by unfold LB; rw [List.replicate_succ',← List.cons_append,← List.append_assoc]]
 exact this
theorem lc_start (s : ByteArray) : LB s ((119 - s.size % 64) % 64) = LC s 0 := by unfold LC; simp
theorem lc_step (s : ByteArray) {k : Nat} (hk : k < 8) {x : Int} (hx : x = ((lb s.size : Int) / ((2 ^ (8 * ((7 : Int) - (k : Int))).toNat : Nat) : Int)) % 256) : (bv (LC s k)).toList ++ [Value.int .u8 x] = (bv (LC s (k + 1))).toList := by
 have e : x = ((UInt8.ofNat (lb s.size / 2 ^ (56 - 8 * k))).toNat : Int) := by
  rw [hx,show (8 * ((7 : Int) - (k : Int))).toNat = 56 - 8 * k by omega]
  simp
 rw [e,bv_snoc]
 congr 2
 unfold LC tb
 rw [List.range_succ,List.map_append,List.append_assoc]; rfl
theorem lc_end (s : ByteArray) (hs : s.size < 18446744073709551616) : LC s 8 = s.data.toList ++ un8 (tailN s.size) := by
 unfold LC LB
 rw [un8_tail,Nat.mod_eq_of_lt hs]
 simp [tlr]
theorem mm_len (s : ByteArray) : (s.data.toList ++ un8 (tailN s.size)).length = s.size + 1 + (119 - s.size % 64) % 64 + 8 := by
 unfold un8 tailN
 rw [List.length_append,List.length_map,List.length_cons,List.length_append,List.length_replicate,List.length_map,List.length_range]
 have : s.data.toList.length = s.size := ba_len s
 omega
theorem wn_eq2 (y x7 x x16 : Nat) : ((((((x16 : Int) + (wlow x : Int)) % 4294967296) + (x7 : Int)) % 4294967296) + (whigh y : Int)) % 4294967296 = ((wn4 y x7 x x16 : Nat) : Int) := by unfold wn4; omega
theorem compl32 {e : Nat} (he : e < 2 ^ 32) : ((4294967295 - (e : Int)) % 4294967296).toNat = 4294967295 ^^^ e := by
 rw [show ((4294967295 - (e : Int)) % 4294967296).toNat = 2 ^ 32 - (e + 1) by omega,show (4294967295 : Nat) = 2 ^ 32 - 1 from rfl]
 apply Nat.eq_of_testBit_eq
 intro i
 rw [Nat.testBit_two_pow_sub_succ he,Nat.testBit_xor,Nat.testBit_two_pow_sub_one]
 by_cases h : i < 32
 ·simp [h]
 ·have : Nat.testBit e i = false := Nat.testBit_lt_two_pow (Nat.lt_of_lt_of_le he (Nat.pow_le_pow_right (by decide) om))
  simp [h,this]
theorem choi_eq2 {e : Nat} (he : e < 2 ^ 32) (f g : Nat) : (((((((e : Int)).toNat &&& ((f : Int)).toNat : Nat) : Int)).toNat ^^^ ((((((4294967295 - (e : Int)) % 4294967296)).toNat &&& ((g : Int)).toNat : Nat) : Int)).toNat : Nat) : Int) = ((choi e f g : Nat) : Int) := by
 unfold choi
 rw [compl32 he]; rfl
theorem wsum8 (hs vs : List Nat) {k : Nat} (hk : k < 8) (hh : hs.length = 8) : (wv (sm hs vs k)).setIfInBounds k (.int .u32 (((rg (sm hs vs k) k : Int) + (rg vs k : Int)) % 4294967296)) = wv (sm hs vs (k + 1)) := by
 rw [wv_set om,add32,Int.toNat_natCast]; rfl
theorem vrow (hs : List Nat) (bl : List UInt8) (t : Nat) : (#[.int .u32 (((frst (rg Kc t) (rg (row bl 64) t) (rv hs bl t) : Int) + (scnd (rv hs bl t) : Int)) % 4294967296),.int .u32 ((rv hs bl t).a : Int),.int .u32 ((rv hs bl t).b : Int),.int .u32 ((rv hs bl t).c : Int),.int .u32 ((((rv hs bl t).d : Int) + (frst (rg Kc t) (rg (row bl 64) t) (rv hs bl t) : Int)) % 4294967296),.int .u32 ((rv hs bl t).e : Int),.int .u32 ((rv hs bl t).f : Int),.int .u32 ((rv hs bl t).g : Int)] : Array Value) = wv (w8l (rv hs bl (t + 1))) := by
 rw [rv_a,rv_e]; rfl
theorem dsz2 (hs : List Nat) {k : Nat} (h : k ≤ 8) : (bv (dgr hs k)).size = 32 := (bv_size _).trans (dgr_len h)
theorem mo_byte {w0 w : World} {M : List Nat} {R O : List (Nat × Obj)} (h : HP w0 M R O w) {mo : MO} {e : TypeId} {l : List UInt8} (hm : (mo.b,Obj.cells ((bv l).toList ++ mo.junk).toArray e mo.fr) ∈ O) {i j q : Nat} (hl : i < l.length) (hj : j < 64) (hi : i = 64 * q + j) :
  w.cell? ⟨mo.b,i,none⟩ = some (.int .u8 ((bt4 (ck l q) j : Nat) : Int)) := by
 rw [cell_cells (h.own _ hm),ck_get hj hi]
 simp only [List.getElem?_toArray]
 rw [List.getElem?_append_left (by rw [bv_len]; exact hl),Array.getElem?_toList]
 exact bv_get (n := l.length) rfl hl
set_option maxRecDepth 100000 in
theorem rRotr7 (x : Nat) (w : World) (hx : x < 2 ^ 32) :
  Calls Tryz.prog 29 #[.int .u32 (x : Int),.int .i64 7] w fun e w' => e = .returned (.int .u32 (rotl x 33554432 128 : Int)) ∧ Ext [] w w' := by
 refine enter (vs := [.int .u32 (x : Int),.int .i64 7]) [] [] [] Tryz.func29 rfl kr (HP.start w) ?_
 refine Rg [0,1] [] n0 trivial ?_
 refine Cfg.regD rfl kr [4] [] (Γ' := [(4,[],.int .u32 (((((x : Int) / 128)).toNat ||| ((((x : Int) * 33554432) % 4294967296)).toNat : Nat) : Int))]) (nd := (fun _ => [(0 ≤ (7 : Int) ∧ 7 ≤ 32),(i6 (25 : Int)),(0 ≤ (25 : Int) ∧ 25 ≤ 32),((0 ≤ ((x : Int) / 128) ∧ ((x : Int) / 128) ≤ 4294967295) ∧ 0 ≤ (((x : Int) * 33554432) % 4294967296) ∧ (((x : Int) * 33554432) % 4294967296) ≤ 4294967295)])) kr kr (fun _ => kr) ⟨om,om,om,om,trivial⟩ ?_
 refine Cfg.ret rfl (rs := [.tmp 4]) rfl [.int .u32 (((((x : Int) / 128)).toNat ||| ((((x : Int) * 33554432) % 4294967296)).toNat : Nat) : Int)] ⟨kr,trivial⟩ (fun w1 hp => ?_)
 refine ⟨?_,hp.ext⟩
 rw [← rotr_or,show x * 33554432 % 4294967296 = ((x : Int) * 33554432 % 4294967296).toNat by omega,show x / 128 = ((x : Int) / 128).toNat by omega]
 rfl
set_option maxRecDepth 100000 in
theorem rRotr18 (x : Nat) (w : World) (hx : x < 2 ^ 32) :
  Calls Tryz.prog 29 #[.int .u32 (x : Int),.int .i64 18] w fun e w' => e = .returned (.int .u32 (rotl x 16384 262144 : Int)) ∧ Ext [] w w' := by
 refine enter (vs := [.int .u32 (x : Int),.int .i64 18]) [] [] [] Tryz.func29 rfl kr (HP.start w) ?_
 refine Rg [0,1] [] n0 trivial ?_
 refine Cfg.regD rfl kr [4] [] (Γ' := [(4,[],.int .u32 (((((x : Int) / 262144)).toNat ||| ((((x : Int) * 16384) % 4294967296)).toNat : Nat) : Int))]) (nd := (fun _ => [(0 ≤ (18 : Int) ∧ 18 ≤ 32),(i6 (14 : Int)),(0 ≤ (14 : Int) ∧ 14 ≤ 32),((0 ≤ ((x : Int) / 262144) ∧ ((x : Int) / 262144) ≤ 4294967295) ∧ 0 ≤ (((x : Int) * 16384) % 4294967296) ∧ (((x : Int) * 16384) % 4294967296) ≤ 4294967295)])) kr kr (fun _ => kr) ⟨om,om,om,om,trivial⟩ ?_
 refine Cfg.ret rfl (rs := [.tmp 4]) rfl [.int .u32 (((((x : Int) / 262144)).toNat ||| ((((x : Int) * 16384) % 4294967296)).toNat : Nat) : Int)] ⟨kr,trivial⟩ (fun w1 hp => ?_)
 refine ⟨?_,hp.ext⟩
 rw [← rotr_or,show x * 16384 % 4294967296 = ((x : Int) * 16384 % 4294967296).toNat by omega,show x / 262144 = ((x : Int) / 262144).toNat by omega]
 rfl
set_option maxRecDepth 100000 in
theorem rRotr17 (x : Nat) (w : World) (hx : x < 2 ^ 32) :
  Calls Tryz.prog 29 #[.int .u32 (x : Int),.int .i64 17] w fun e w' => e = .returned (.int .u32 (rotl x 32768 131072 : Int)) ∧ Ext [] w w' := by
 refine enter (vs := [.int .u32 (x : Int),.int .i64 17]) [] [] [] Tryz.func29 rfl kr (HP.start w) ?_
 refine Rg [0,1] [] n0 trivial ?_
 refine Cfg.regD rfl kr [4] [] (Γ' := [(4,[],.int .u32 (((((x : Int) / 131072)).toNat ||| ((((x : Int) * 32768) % 4294967296)).toNat : Nat) : Int))]) (nd := (fun _ => [(0 ≤ (17 : Int) ∧ 17 ≤ 32),(i6 (15 : Int)),(0 ≤ (15 : Int) ∧ 15 ≤ 32),((0 ≤ ((x : Int) / 131072) ∧ ((x : Int) / 131072) ≤ 4294967295) ∧ 0 ≤ (((x : Int) * 32768) % 4294967296) ∧ (((x : Int) * 32768) % 4294967296) ≤ 4294967295)])) kr kr (fun _ => kr) ⟨om,om,om,om,trivial⟩ ?_
 refine Cfg.ret rfl (rs := [.tmp 4]) rfl [.int .u32 (((((x : Int) / 131072)).toNat ||| ((((x : Int) * 32768) % 4294967296)).toNat : Nat) : Int)] ⟨kr,trivial⟩ (fun w1 hp => ?_)
 refine ⟨?_,hp.ext⟩
 rw [← rotr_or,show x * 32768 % 4294967296 = ((x : Int) * 32768 % 4294967296).toNat by omega,show x / 131072 = ((x : Int) / 131072).toNat by omega]
 rfl
set_option maxRecDepth 100000 in
theorem rRotr19 (x : Nat) (w : World) (hx : x < 2 ^ 32) :
  Calls Tryz.prog 29 #[.int .u32 (x : Int),.int .i64 19] w fun e w' => e = .returned (.int .u32 (rotl x 8192 524288 : Int)) ∧ Ext [] w w' := by
 refine enter (vs := [.int .u32 (x : Int),.int .i64 19]) [] [] [] Tryz.func29 rfl kr (HP.start w) ?_
 refine Rg [0,1] [] n0 trivial ?_
 refine Cfg.regD rfl kr [4] [] (Γ' := [(4,[],.int .u32 (((((x : Int) / 524288)).toNat ||| ((((x : Int) * 8192) % 4294967296)).toNat : Nat) : Int))]) (nd := (fun _ => [(0 ≤ (19 : Int) ∧ 19 ≤ 32),(i6 (13 : Int)),(0 ≤ (13 : Int) ∧ 13 ≤ 32),((0 ≤ ((x : Int) / 524288) ∧ ((x : Int) / 524288) ≤ 4294967295) ∧ 0 ≤ (((x : Int) * 8192) % 4294967296) ∧ (((x : Int) * 8192) % 4294967296) ≤ 4294967295)])) kr kr (fun _ => kr) ⟨om,om,om,om,trivial⟩ ?_
 refine Cfg.ret rfl (rs := [.tmp 4]) rfl [.int .u32 (((((x : Int) / 524288)).toNat ||| ((((x : Int) * 8192) % 4294967296)).toNat : Nat) : Int)] ⟨kr,trivial⟩ (fun w1 hp => ?_)
 refine ⟨?_,hp.ext⟩
 rw [← rotr_or,show x * 8192 % 4294967296 = ((x : Int) * 8192 % 4294967296).toNat by omega,show x / 524288 = ((x : Int) / 524288).toNat by omega]
 rfl
set_option maxRecDepth 100000 in
theorem rRotr6 (x : Nat) (w : World) (hx : x < 2 ^ 32) :
  Calls Tryz.prog 29 #[.int .u32 (x : Int),.int .i64 6] w fun e w' => e = .returned (.int .u32 (rotl x 67108864 64 : Int)) ∧ Ext [] w w' := by
 refine enter (vs := [.int .u32 (x : Int),.int .i64 6]) [] [] [] Tryz.func29 rfl kr (HP.start w) ?_
 refine Rg [0,1] [] n0 trivial ?_
 refine Cfg.regD rfl kr [4] [] (Γ' := [(4,[],.int .u32 (((((x : Int) / 64)).toNat ||| ((((x : Int) * 67108864) % 4294967296)).toNat : Nat) : Int))]) (nd := (fun _ => [(0 ≤ (6 : Int) ∧ 6 ≤ 32),(i6 (26 : Int)),(0 ≤ (26 : Int) ∧ 26 ≤ 32),((0 ≤ ((x : Int) / 64) ∧ ((x : Int) / 64) ≤ 4294967295) ∧ 0 ≤ (((x : Int) * 67108864) % 4294967296) ∧ (((x : Int) * 67108864) % 4294967296) ≤ 4294967295)])) kr kr (fun _ => kr) ⟨om,om,om,om,trivial⟩ ?_
 refine Cfg.ret rfl (rs := [.tmp 4]) rfl [.int .u32 (((((x : Int) / 64)).toNat ||| ((((x : Int) * 67108864) % 4294967296)).toNat : Nat) : Int)] ⟨kr,trivial⟩ (fun w1 hp => ?_)
 refine ⟨?_,hp.ext⟩
 rw [← rotr_or,show x * 67108864 % 4294967296 = ((x : Int) * 67108864 % 4294967296).toNat by omega,show x / 64 = ((x : Int) / 64).toNat by omega]
 rfl
set_option maxRecDepth 100000 in
theorem rRotr11 (x : Nat) (w : World) (hx : x < 2 ^ 32) :
  Calls Tryz.prog 29 #[.int .u32 (x : Int),.int .i64 11] w fun e w' => e = .returned (.int .u32 (rotl x 2097152 2048 : Int)) ∧ Ext [] w w' := by
 refine enter (vs := [.int .u32 (x : Int),.int .i64 11]) [] [] [] Tryz.func29 rfl kr (HP.start w) ?_
 refine Rg [0,1] [] n0 trivial ?_
 refine Cfg.regD rfl kr [4] [] (Γ' := [(4,[],.int .u32 (((((x : Int) / 2048)).toNat ||| ((((x : Int) * 2097152) % 4294967296)).toNat : Nat) : Int))]) (nd := (fun _ => [(0 ≤ (11 : Int) ∧ 11 ≤ 32),(i6 (21 : Int)),(0 ≤ (21 : Int) ∧ 21 ≤ 32),((0 ≤ ((x : Int) / 2048) ∧ ((x : Int) / 2048) ≤ 4294967295) ∧ 0 ≤ (((x : Int) * 2097152) % 4294967296) ∧ (((x : Int) * 2097152) % 4294967296) ≤ 4294967295)])) kr kr (fun _ => kr) ⟨om,om,om,om,trivial⟩ ?_
 refine Cfg.ret rfl (rs := [.tmp 4]) rfl [.int .u32 (((((x : Int) / 2048)).toNat ||| ((((x : Int) * 2097152) % 4294967296)).toNat : Nat) : Int)] ⟨kr,trivial⟩ (fun w1 hp => ?_)
 refine ⟨?_,hp.ext⟩
 rw [← rotr_or,show x * 2097152 % 4294967296 = ((x : Int) * 2097152 % 4294967296).toNat by omega,show x / 2048 = ((x : Int) / 2048).toNat by omega]
 rfl
set_option maxRecDepth 100000 in
theorem rRotr25 (x : Nat) (w : World) (hx : x < 2 ^ 32) :
  Calls Tryz.prog 29 #[.int .u32 (x : Int),.int .i64 25] w fun e w' => e = .returned (.int .u32 (rotl x 128 33554432 : Int)) ∧ Ext [] w w' := by
 refine enter (vs := [.int .u32 (x : Int),.int .i64 25]) [] [] [] Tryz.func29 rfl kr (HP.start w) ?_
 refine Rg [0,1] [] n0 trivial ?_
 refine Cfg.regD rfl kr [4] [] (Γ' := [(4,[],.int .u32 (((((x : Int) / 33554432)).toNat ||| ((((x : Int) * 128) % 4294967296)).toNat : Nat) : Int))]) (nd := (fun _ => [(0 ≤ (25 : Int) ∧ 25 ≤ 32),(i6 (7 : Int)),(0 ≤ (7 : Int) ∧ 7 ≤ 32),((0 ≤ ((x : Int) / 33554432) ∧ ((x : Int) / 33554432) ≤ 4294967295) ∧ 0 ≤ (((x : Int) * 128) % 4294967296) ∧ (((x : Int) * 128) % 4294967296) ≤ 4294967295)])) kr kr (fun _ => kr) ⟨om,om,om,om,trivial⟩ ?_
 refine Cfg.ret rfl (rs := [.tmp 4]) rfl [.int .u32 (((((x : Int) / 33554432)).toNat ||| ((((x : Int) * 128) % 4294967296)).toNat : Nat) : Int)] ⟨kr,trivial⟩ (fun w1 hp => ?_)
 refine ⟨?_,hp.ext⟩
 rw [← rotr_or,show x * 128 % 4294967296 = ((x : Int) * 128 % 4294967296).toNat by omega,show x / 33554432 = ((x : Int) / 33554432).toNat by omega]
 rfl
set_option maxRecDepth 100000 in
theorem rRotr2 (x : Nat) (w : World) (hx : x < 2 ^ 32) :
  Calls Tryz.prog 29 #[.int .u32 (x : Int),.int .i64 2] w fun e w' => e = .returned (.int .u32 (rotl x 1073741824 4 : Int)) ∧ Ext [] w w' := by
 refine enter (vs := [.int .u32 (x : Int),.int .i64 2]) [] [] [] Tryz.func29 rfl kr (HP.start w) ?_
 refine Rg [0,1] [] n0 trivial ?_
 refine Cfg.regD rfl kr [4] [] (Γ' := [(4,[],.int .u32 (((((x : Int) / 4)).toNat ||| ((((x : Int) * 1073741824) % 4294967296)).toNat : Nat) : Int))]) (nd := (fun _ => [(0 ≤ (2 : Int) ∧ 2 ≤ 32),(i6 (30 : Int)),(0 ≤ (30 : Int) ∧ 30 ≤ 32),((0 ≤ ((x : Int) / 4) ∧ ((x : Int) / 4) ≤ 4294967295) ∧ 0 ≤ (((x : Int) * 1073741824) % 4294967296) ∧ (((x : Int) * 1073741824) % 4294967296) ≤ 4294967295)])) kr kr (fun _ => kr) ⟨om,om,om,om,trivial⟩ ?_
 refine Cfg.ret rfl (rs := [.tmp 4]) rfl [.int .u32 (((((x : Int) / 4)).toNat ||| ((((x : Int) * 1073741824) % 4294967296)).toNat : Nat) : Int)] ⟨kr,trivial⟩ (fun w1 hp => ?_)
 refine ⟨?_,hp.ext⟩
 rw [← rotr_or,show x * 1073741824 % 4294967296 = ((x : Int) * 1073741824 % 4294967296).toNat by omega,show x / 4 = ((x : Int) / 4).toNat by omega]
 rfl
set_option maxRecDepth 100000 in
theorem rRotr13 (x : Nat) (w : World) (hx : x < 2 ^ 32) :
  Calls Tryz.prog 29 #[.int .u32 (x : Int),.int .i64 13] w fun e w' => e = .returned (.int .u32 (rotl x 524288 8192 : Int)) ∧ Ext [] w w' := by
 refine enter (vs := [.int .u32 (x : Int),.int .i64 13]) [] [] [] Tryz.func29 rfl kr (HP.start w) ?_
 refine Rg [0,1] [] n0 trivial ?_
 refine Cfg.regD rfl kr [4] [] (Γ' := [(4,[],.int .u32 (((((x : Int) / 8192)).toNat ||| ((((x : Int) * 524288) % 4294967296)).toNat : Nat) : Int))]) (nd := (fun _ => [(0 ≤ (13 : Int) ∧ 13 ≤ 32),(i6 (19 : Int)),(0 ≤ (19 : Int) ∧ 19 ≤ 32),((0 ≤ ((x : Int) / 8192) ∧ ((x : Int) / 8192) ≤ 4294967295) ∧ 0 ≤ (((x : Int) * 524288) % 4294967296) ∧ (((x : Int) * 524288) % 4294967296) ≤ 4294967295)])) kr kr (fun _ => kr) ⟨om,om,om,om,trivial⟩ ?_
 refine Cfg.ret rfl (rs := [.tmp 4]) rfl [.int .u32 (((((x : Int) / 8192)).toNat ||| ((((x : Int) * 524288) % 4294967296)).toNat : Nat) : Int)] ⟨kr,trivial⟩ (fun w1 hp => ?_)
 refine ⟨?_,hp.ext⟩
 rw [← rotr_or,show x * 524288 % 4294967296 = ((x : Int) * 524288 % 4294967296).toNat by omega,show x / 8192 = ((x : Int) / 8192).toNat by omega]
 rfl
set_option maxRecDepth 100000 in
theorem rRotr22 (x : Nat) (w : World) (hx : x < 2 ^ 32) :
  Calls Tryz.prog 29 #[.int .u32 (x : Int),.int .i64 22] w fun e w' => e = .returned (.int .u32 (rotl x 1024 4194304 : Int)) ∧ Ext [] w w' := by
 refine enter (vs := [.int .u32 (x : Int),.int .i64 22]) [] [] [] Tryz.func29 rfl kr (HP.start w) ?_
 refine Rg [0,1] [] n0 trivial ?_
 refine Cfg.regD rfl kr [4] [] (Γ' := [(4,[],.int .u32 (((((x : Int) / 4194304)).toNat ||| ((((x : Int) * 1024) % 4294967296)).toNat : Nat) : Int))]) (nd := (fun _ => [(0 ≤ (22 : Int) ∧ 22 ≤ 32),(i6 (10 : Int)),(0 ≤ (10 : Int) ∧ 10 ≤ 32),((0 ≤ ((x : Int) / 4194304) ∧ ((x : Int) / 4194304) ≤ 4294967295) ∧ 0 ≤ (((x : Int) * 1024) % 4294967296) ∧ (((x : Int) * 1024) % 4294967296) ≤ 4294967295)])) kr kr (fun _ => kr) ⟨om,om,om,om,trivial⟩ ?_
 refine Cfg.ret rfl (rs := [.tmp 4]) rfl [.int .u32 (((((x : Int) / 4194304)).toNat ||| ((((x : Int) * 1024) % 4294967296)).toNat : Nat) : Int)] ⟨kr,trivial⟩ (fun w1 hp => ?_)
 refine ⟨?_,hp.ext⟩
 rw [← rotr_or,show x * 1024 % 4294967296 = ((x : Int) * 1024 % 4294967296).toNat by omega,show x / 4194304 = ((x : Int) / 4194304).toNat by omega]
 rfl
set_option maxRecDepth 100000 in
theorem rK (w : World) :
  Calls Tryz.prog 28 #[] w fun e w' => ∃ b : Nat,True ∧ e = .returned (.slice (some ⟨b,0,none⟩) 64 64) ∧ w.heap.size ≤ b ∧ w'.heap[b]? = some (.cells (wv Kc) 69 (0,0)) ∧ Ext [] w w' := by
 refine enter (vs := []) [] [] [] Tryz.func28 rfl kr (HP.start w) ?_
 refine Rg [] [] n0 trivial ?_
 refine Cfg.begL rfl ?_
 refine Le (Eff.buildSlice (e := 69) (cells := (wv Kc)) (parts := #[(0,.int .u32 1116352408),(1,.int .u32 1899447441),(2,.int .u32 3049323471),(3,.int .u32 3921009573),(4,.int .u32 961987163),(5,.int .u32 1508970993),(6,.int .u32 2453635748),(7,.int .u32 2870763221),(8,.int .u32 3624381080),(9,.int .u32 310598401),(10,.int .u32 607225278),(11,.int .u32 1426881987),(12,.int .u32 1925078388),(13,.int .u32 2162078206),(14,.int .u32 2614888103),(15,.int .u32 3248222580),(16,.int .u32 3835390401),(17,.int .u32 4022224774),(18,.int .u32 264347078),(19,.int .u32 604807628),(20,.int .u32 770255983),(21,.int .u32 1249150122),(22,.int .u32 1555081692),(23,.int .u32 1996064986),(24,.int .u32 2554220882),(25,.int .u32 2821834349),(26,.int .u32 2952996808),(27,.int .u32 3210313671),(28,.int .u32 3336571891),(29,.int .u32 3584528711),(30,.int .u32 113926993),(31,.int .u32 338241895),(32,.int .u32 666307205),(33,.int .u32 773529912),(34,.int .u32 1294757372),(35,.int .u32 1396182291),(36,.int .u32 1695183700),(37,.int .u32 1986661051),(38,.int .u32 2177026350),(39,.int .u32 2456956037),(40,.int .u32 2730485921),(41,.int .u32 2820302411),(42,.int .u32 3259730800),(43,.int .u32 3345764771),(44,.int .u32 3516065817),(45,.int .u32 3600352804),(46,.int .u32 4094571909),(47,.int .u32 275423344),(48,.int .u32 430227734),(49,.int .u32 506948616),(50,.int .u32 659060556),(51,.int .u32 883997877),(52,.int .u32 958139571),(53,.int .u32 1322822218),(54,.int .u32 1537002063),(55,.int .u32 1747873779),(56,.int .u32 1955562222),(57,.int .u32 2024104815),(58,.int .u32 2227730452),(59,.int .u32 2361852424),(60,.int .u32 2428436474),(61,.int .u32 2756734187),(62,.int .u32 3204031479),(63,.int .u32 3329325298)]) rfl kr (fun _ => kr)) ?_
 rintro b ⟨hb,nb⟩
 refine Lp 1 [] (some [0]) n0 trivial ?_
 refine CfgL.done rfl ?_
 refine Cfg.ret rfl (rs := [.tmp 0]) rfl [.slice (some ⟨b,0,none⟩) 64 64] ⟨kr,trivial⟩ (fun w1 hp => ?_)
 exact ⟨b,trivial,rfl,hb,hp.own (b,_) mH,hp.ext⟩
end Go.Proofs.YtbeegepcdglcaaaGreatDoor
namespace Go.Proofs.YtbeegepcdglcaaaGreatDoor
open K
set_option linter.unusedVariables false
set_option maxRecDepth 100000 in
set_option maxHeartbeats 4000000 in
theorem rSum (s : ByteArray) (w : World) (hsz : s.size ≤ 100000000) :
  Calls Tryz.prog 12 #[.string s] w fun e w' => e = .returned (.agg (bv (shaD s.data.toList))) ∧ Ext [] w w' := by
 refine enter (vs := [.string s]) [] [] [] Tryz.func12 rfl kr (HP.start w) ?_
 refine Cfg.begL rfl ?_
 refine Le (Eff.alloc (z := (.agg (bv (List.replicate 32 0)))) rfl kr) ?_
 rintro rs ⟨hrs,nrs⟩
 refine CfgL.done rfl ?_
 refine Cfg.begL rfl ?_
 refine Lp 1 [] (some [2,25]) n0 trivial ?_
 refine Le (Eff.toBytes rfl Tryz.underlying9 Tryz.underlying53 Tryz.underlying5 (t := s) kr [(rs,.cells (bv (List.replicate 32 0)) 36 (0,0))] [] rfl) ?_
 rintro mo kmo
 refine Lp 1 [] (some [2,3]) n0 trivial ?_
 refine CfgL.done rfl ?_
 refine Rg [2,3,4] [] n0 trivial ?_
 refine Cfg.setS 4 (congrArg (fun (xq : Int) => (.int .u64 xq : Value)) (show ((((s.size : Int) % 18446744073709551616) * 8) % 18446744073709551616) = ((lb s.size) : Int) from by unfold lb; omega)) ?_
 refine Cfg.begL rfl ?_
 refine Lp 1 [] none n0 trivial ?_
 refine Le (Eff.buildSlice (e := 5) (cells := #[.int .u8 128]) (parts := #[(0,.int .u8 128)]) rfl kr (fun _ => kr)) ?_
 rintro bk2 ⟨hbk2,nbk2⟩
 refine Le (Eff.appendM rfl Tryz.underlying53 kr (z := .int .u8 0) kr rfl mo kmo kr (b2 := bk2) (off2 := 0) (c2 := 1) kr (.int .u8 128) rfl [(bk2,.cells #[.int .u8 128] 5 (0,0)),(rs,.cells (bv (List.replicate 32 0)) 36 (0,0))] [] rfl (oC 0 rfl rfl) om) ?_
 rintro mo1 kmo1
 refine Lp 1 [] (some [2,3,4]) n0 trivial ?_
 refine CfgL.done rfl ?_
 refine Cfg.setO (congrArg (fun (xq : List Value) => (([(bk2,.cells #[.int .u8 128] 5 (0,0)),(rs,.cells (bv (List.replicate 32 0)) 36 (0,0))] ++ (MO.o 5 xq mo1 ++ [])) : LO)) (show _ = ((bv (LB s 0)).toList) from lb_start s)) ?_
 refine Cfg.loop rfl (ι := Nat × MO) (fun (xz : Nat × MO) => match xz with | (j,mo) => [(3,[],.slice (some ⟨mo.b,0,none⟩) (s.size + 1 + j) mo.cap),(4,[],.int .u64 ((lb s.size) : Int)),(2,[],pT rs)]) (fun (xz : Nat × MO) => match xz with | (j,mo) => ([(rs,.cells (bv (List.replicate 32 0)) 36 (0,0))] ++ (MO.o 5 ((bv (LB s j)).toList) mo ++ []))) (fun (xz : Nat × MO) => match xz with | (j,mo) => (j ≤ ((119 - s.size % 64) % 64)) ∧ (MOk mo (s.size + 1 + j) (bv (LB s j)).toList)) (fun (xz : Nat × MO) => match xz with | (j,mo) => ((119 - s.size % 64) % 64) - j) (0,mo1) ?_ (Conv.mk kr) (.cons _ (.cons_cons _ (List.Sublist.trans slr (List.sublist_append_right _ _)))) ?_
 ·exact ⟨Nat.zero_le _,lb_start s ▸ kmo1⟩
 ·rintro ⟨j,mo⟩ ⟨hj,kmo⟩
  refine Rg [2,3,4,37] [] (fun _ => [(0 ≤ (((s.size + 1 + j) : Nat) : Int) ∧ 0 < (64 : Int))]) ⟨om,trivial⟩ ?_
  refine Cfg.cond rfl (b := (((((s.size + 1 + j) : Nat) : Int) % 64) != (56 : Int))) kr (fun c1r => ?_) (fun c1r => ?_)
  ·have c1 := (bne_iff_ne.1 c1r)
   refine Cfg.begL rfl ?_
   refine Lp 1 [] (some [2,3,4,38]) n0 trivial ?_
   refine Le (Eff.buildSlice (e := 5) (cells := #[.int .u8 0]) (parts := #[(0,.int .u8 0)]) rfl kr (fun _ => kr)) ?_
   rintro bk3 ⟨hbk3,nbk3⟩
   refine Le (Eff.appendM rfl Tryz.underlying53 kr (z := .int .u8 0) kr rfl mo kmo kr (b2 := bk3) (off2 := 0) (c2 := 1) kr (.int .u8 0) rfl [(bk3,.cells #[.int .u8 0] 5 (0,0)),(rs,.cells (bv (List.replicate 32 0)) 36 (0,0))] [] rfl (oC 0 rfl rfl) om) ?_
   rintro mo2 kmo2
   refine Lp 1 [] (some [2,3,4]) n0 trivial ?_
   refine CfgL.done rfl ?_
   refine Cfg.setO (congrArg (fun (xq : List Value) => (([(bk3,.cells #[.int .u8 0] 5 (0,0)),(rs,.cells (bv (List.replicate 32 0)) 36 (0,0))] ++ (MO.o 5 xq mo2 ++ [])) : LO)) (show _ = ((bv (LB s (j + 1))).toList) from lb_step s j)) ?_
   refine Cfg.again rfl (j + 1,mo2) ⟨by omega,lb_step s j ▸ kmo2⟩ (by show ((119 - s.size % 64) % 64) - (j + 1) < ((119 - s.size % 64) % 64) - j; omega) (Conv.mk kr) (.cons _ slr)
  ·have c1 := (bne_eq_false_iff_eq.1 c1r)
   obtain rfl : j = ((119 - s.size % 64) % 64) := by omega
   refine Conv.cfg (Γ' := [(3,[],.slice (some ⟨mo.b,0,none⟩) (s.size + 1 + ((119 - s.size % 64) % 64)) mo.cap),(4,[],.int .u64 ((lb s.size) : Int)),(2,[],pT rs)]) (Conv.mk kr) ?_
   refine Rg [2,3,4,5] [] n0 trivial ?_
   refine Cfg.setO (congrArg (fun (xq : List Value) => (([(rs,.cells (bv (List.replicate 32 0)) 36 (0,0))] ++ (MO.o 5 xq mo ++ [])) : LO)) (show _ = ((bv (LC s 0)).toList) from by rw [lc_start])) ?_
   refine Cfg.loop rfl (ι := Nat × MO) (fun (xz : Nat × MO) => match xz with | (k,mo) => [(5,[],.int .i64 ((7 : Int) - (k : Int))),(3,[],.slice (some ⟨mo.b,0,none⟩) (s.size + 1 + ((119 - s.size % 64) % 64) + k) mo.cap),(4,[],.int .u64 ((lb s.size) : Int)),(2,[],pT rs)]) (fun (xz : Nat × MO) => match xz with | (k,mo) => ([(rs,.cells (bv (List.replicate 32 0)) 36 (0,0))] ++ (MO.o 5 ((bv (LC s k)).toList) mo ++ []))) (fun (xz : Nat × MO) => match xz with | (k,mo) => (k ≤ 8) ∧ (MOk mo (s.size + 1 + ((119 - s.size % 64) % 64) + k) (bv (LC s k)).toList)) (fun (xz : Nat × MO) => match xz with | (k,mo) => 8 - k) (0,mo) ?_ (Conv.mk kr) slr ?_
   ·exact ⟨Nat.zero_le _,lc_start s ▸ kmo⟩
   ·rintro ⟨k,mo⟩ ⟨hk,kmo⟩
    refine Rg [2,3,4,5,42] [] n0 trivial ?_
    refine Cfg.cond rfl (b := (decide (((7 : Int) - (k : Int)) ≥ (0 : Int)))) kr (fun c2r => ?_) (fun c2r => ?_)
    ·have c2 := (dT c2r)
     refine Cfg.begL rfl ?_
     refine CfgL.pure 6 [] (some [2,3,4,5,45,50]) (Γ' := [(50,[],.int .u8 ((((lb s.size) : Int) / ((2 ^ ((8 * ((7 : Int) - (k : Int)))).toNat : Nat) : Int)) % 256)),(45,[],.slice (some ⟨mo.b,0,none⟩) (s.size + 1 + ((119 - s.size % 64) % 64) + k) mo.cap),(5,[],.int .i64 ((7 : Int) - (k : Int))),(3,[],.slice (some ⟨mo.b,0,none⟩) (s.size + 1 + ((119 - s.size % 64) % 64) + k) mo.cap),(4,[],.int .u64 ((lb s.size) : Int)),(2,[],pT rs)]) (nd := (fun _ => [(i6 (8 * ((7 : Int) - (k : Int)))),(0 ≤ (8 * ((7 : Int) - (k : Int))) ∧ ((8 * ((7 : Int) - (k : Int)))).toNat ≤ 64)])) kr (fun _ => kr) ⟨om,om,trivial⟩ ?_
     refine Le (Eff.buildSlice (e := 5) (cells := #[.int .u8 ((((lb s.size) : Int) / ((2 ^ ((8 * ((7 : Int) - (k : Int)))).toNat : Nat) : Int)) % 256)]) (parts := #[(0,.int .u8 ((((lb s.size) : Int) / ((2 ^ ((8 * ((7 : Int) - (k : Int)))).toNat : Nat) : Int)) % 256))]) rfl kr (fun _ => kr)) ?_
     rintro bk4 ⟨hbk4,nbk4⟩
     refine Le (Eff.appendM rfl Tryz.underlying53 kr (z := .int .u8 0) kr rfl mo kmo kr (b2 := bk4) (off2 := 0) (c2 := 1) kr (.int .u8 ((((lb s.size) : Int) / ((2 ^ ((8 * ((7 : Int) - (k : Int)))).toNat : Nat) : Int)) % 256)) rfl [(bk4,.cells #[.int .u8 ((((lb s.size) : Int) / ((2 ^ ((8 * ((7 : Int) - (k : Int)))).toNat : Nat) : Int)) % 256)] 5 (0,0)),(rs,.cells (bv (List.replicate 32 0)) 36 (0,0))] [] rfl (oC 0 rfl rfl) om) ?_
     rintro mo3 kmo3
     refine Lp 1 [] (some [2,3,4,5]) n0 trivial ?_
     refine CfgL.done rfl ?_
     refine Rg [2,3,4,5] [] (fun _ => [(i6 (((7 : Int) - (k : Int)) - 1))]) ⟨om,trivial⟩ ?_
     have hst := lc_step s (k := k) om rfl
     refine Cfg.setO (congrArg (fun (xq : List Value) => (([(bk4,.cells #[.int .u8 ((((lb s.size) : Int) / ((2 ^ ((8 * ((7 : Int) - (k : Int)))).toNat : Nat) : Int)) % 256)] 5 (0,0)),(rs,.cells (bv (List.replicate 32 0)) 36 (0,0))] ++ (MO.o 5 xq mo3 ++ [])) : LO)) (show _ = ((bv (LC s (k + 1))).toList) from hst)) ?_
     refine Cfg.setS 5 (congrArg (fun (xq : Int) => (.int .i64 xq : Value)) (show (((7 : Int) - (k : Int)) - 1) = ((7 : Int) - ((k + 1 : Nat) : Int)) from by omega)) ?_
     refine Cfg.again rfl (k + 1,mo3) ⟨by omega,hst ▸ kmo3⟩ (by show 8 - (k + 1) < 8 - k; omega) (Conv.mk kr) (.cons _ slr)
    ·have c2 := (dF c2r)
     obtain rfl : k = 8 := by omega
     refine Conv.cfg (Γ' := [(3,[],.slice (some ⟨mo.b,0,none⟩) (s.size + 1 + ((119 - s.size % 64) % 64) + 8) mo.cap),(2,[],pT rs)]) (Conv.mk kr) ?_
     obtain ⟨M,hM⟩ : ∃ x,x = (s.data.toList ++ un8 (tailN s.size)) := ⟨_,rfl⟩
     have hml : M.length = s.size + 1 + ((119 - s.size % 64) % 64) + 8 := by rw [hM]; exact mm_len s
     have hK64 : 64 * (M.length / 64) = M.length := by rw [hml]; omega
     refine Cfg.setO (congrArg (fun (xq : List Value) => (([(rs,.cells (bv (List.replicate 32 0)) 36 (0,0))] ++ (MO.o 5 xq mo ++ [])) : LO)) (show _ = ((bv M).toList) from by rw [lc_end s om,hM])) ?_
     refine Cfg.begL rfl ?_
     refine Le (Eff.buildSlice (e := 69) (cells := #[.int .u32 1779033703,.int .u32 3144134277,.int .u32 1013904242,.int .u32 2773480762,.int .u32 1359893119,.int .u32 2600822924,.int .u32 528734635,.int .u32 1541459225]) (parts := #[(0,.int .u32 1779033703),(1,.int .u32 3144134277),(2,.int .u32 1013904242),(3,.int .u32 2773480762),(4,.int .u32 1359893119),(5,.int .u32 2600822924),(6,.int .u32 528734635),(7,.int .u32 1541459225)]) rfl kr (fun _ => kr)) ?_
     rintro hb ⟨hhb,nhb⟩
     refine Lp 1 [] (some [2,3,6]) n0 trivial ?_
     refine CfgL.done rfl ?_
     refine Cfg.begL rfl ?_
     refine Le (Eff.callN (vs := []) (fun b : Nat => .slice (some ⟨b,0,none⟩) 64 64) (fun b => b) (fun _ => .cells (wv Kc) 69 (0,0)) (fun _ => True) rfl Tryz.func28 rfl rfl kr (fun w1 _ => rK w1)) ?_
     rintro cb ⟨-,hcb,ncb⟩
     refine Lp 1 [] (some [2,3,6,7]) n0 trivial ?_
     refine CfgL.done rfl ?_
     refine Rg [2,3,6,7,8] [] n0 trivial ?_
     refine Cfg.setO (congrArg (fun (xq : Array Value) => (([(cb,.cells (wv Kc) 69 (0,0)),(hb,.cells xq 69 (0,0)),(rs,.cells (bv (List.replicate 32 0)) 36 (0,0))] ++ (MO.o 5 ((bv M).toList) mo ++ [])) : LO)) (show _ = (wv (mixes 0 M H8)) from rfl)) ?_
     refine Cfg.loop rfl (ι := Nat) (fun (q : Nat) => [(8,[],.int .i64 (((64 * q) : Nat) : Int)),(7,[],.slice (some ⟨cb,0,none⟩) 64 64),(6,[],.slice (some ⟨hb,0,none⟩) 8 8),(3,[],.slice (some ⟨mo.b,0,none⟩) (s.size + 1 + ((119 - s.size % 64) % 64) + 8) mo.cap),(2,[],pT rs)]) (fun (q : Nat) => ([(cb,.cells (wv Kc) 69 (0,0)),(hb,.cells (wv (mixes q M H8)) 69 (0,0)),(rs,.cells (bv (List.replicate 32 0)) 36 (0,0))] ++ (MO.o 5 ((bv M).toList) mo ++ []))) (fun (q : Nat) => (q ≤ M.length / 64)) (fun (q : Nat) => M.length / 64 - q) 0 ?_ (Conv.mk kr) slr ?_
     ·exact Nat.zero_le _
     ·rintro q hq
      obtain ⟨hs,hhs⟩ : ∃ x,x = mixes q M H8 := ⟨_,rfl⟩
      obtain ⟨bl,hbl⟩ : ∃ x,x = ck M q := ⟨_,rfl⟩
      have hh : hs.length = 8 := hhs ▸ mixes_len _ _ rfl
      have hlt : ∀ i,rg hs i < 2 ^ 32 := hhs ▸ mixes_lt _ _ sh0_ok.hlt
      refine Cfg.setO (congrArg (fun (xq : Array Value) => (([(cb,.cells (wv Kc) 69 (0,0)),(hb,.cells xq 69 (0,0)),(rs,.cells (bv (List.replicate 32 0)) 36 (0,0))] ++ (MO.o 5 ((bv M).toList) mo ++ [])) : LO)) (show _ = (wv hs) from by rw [hhs])) ?_
      refine Rg [2,3,6,7,8,58] [] n0 trivial ?_
      refine Cfg.cond rfl (b := (decide ((((64 * q) : Nat) : Int) < (((s.size + 1 + ((119 - s.size % 64) % 64) + 8) : Nat) : Int)))) kr (fun c3r => ?_) (fun c3r => ?_)
      ·have c3 := (dT c3r)
       refine Cfg.begL rfl ?_
       refine Le (Eff.makeRow (e := 69) (n := 64) (cells := (wv (row bl 0))) (v1 := .int .i64 64) (v2 := .int .i64 64) rfl kr kr (fun _ => kr)) ?_
       rintro wb ⟨hwb,nwb⟩
       refine Lp 1 [] (some [2,3,6,7,8,9]) n0 trivial ?_
       refine CfgL.done rfl ?_
       refine Rg [2,3,6,7,8,9,10] [] n0 trivial ?_
       refine Cfg.loop rfl (ι := Nat) (fun (t : Nat) => [(10,[],.int .i64 (t : Int)),(9,[],.slice (some ⟨wb,0,none⟩) 64 64),(8,[],.int .i64 (((64 * q) : Nat) : Int)),(7,[],.slice (some ⟨cb,0,none⟩) 64 64),(6,[],.slice (some ⟨hb,0,none⟩) 8 8),(3,[],.slice (some ⟨mo.b,0,none⟩) (s.size + 1 + ((119 - s.size % 64) % 64) + 8) mo.cap),(2,[],pT rs)]) (fun (t : Nat) => ([(wb,.cells (wv (row bl t)) 69 (0,0)),(cb,.cells (wv Kc) 69 (0,0)),(hb,.cells (wv hs) 69 (0,0)),(rs,.cells (bv (List.replicate 32 0)) 36 (0,0))] ++ (MO.o 5 ((bv M).toList) mo ++ []))) (fun (t : Nat) => (t ≤ 16)) (fun (t : Nat) => 16 - t) 0 ?_ (Conv.mk kr) slr ?_
       ·exact Nat.zero_le _
       ·rintro t ht
        refine Rg [2,3,6,7,8,9,10,63] [] n0 trivial ?_
        refine Cfg.cond rfl (b := (decide ((t : Int) < (16 : Int)))) kr (fun c4r => ?_) (fun c4r => ?_)
        ·have c4 := (dT c4r)
         refine Cfg.begA rfl kr ([(cb,.cells (wv Kc) 69 (0,0)),(hb,.cells (wv hs) 69 (0,0)),(rs,.cells (bv (List.replicate 32 0)) 36 (0,0))] ++ (MO.o 5 ((bv M).toList) mo ++ [])) ?_
         refine CfgA.pure (List.range 44) [dZ,dZ,dZ,dZ,dZ,dZ,dZ,dZ,(dS (.int .u8 ((bt4 bl (4 * t) : Nat) : Int))),dZ,dZ,dZ,dZ,dZ,dZ,dZ,dZ,dZ,(dS (.int .u8 ((bt4 bl (4 * t + 1) : Nat) : Int))),dZ,dZ,dZ,dZ,dZ,dZ,dZ,dZ,dZ,dZ,(dS (.int .u8 ((bt4 bl (4 * t + 2) : Nat) : Int))),dZ,dZ,dZ,dZ,dZ,dZ,dZ,dZ,dZ,dZ,(dS (.int .u8 ((bt4 bl (4 * t + 3) : Nat) : Int)))] (some [2,3,6,7,8,9,10,108,109]) (l' := tF 44 1) kr kr (.cons _ slr) 1 rfl (Γ' := [(109,[],.pointer (some ⟨wb,t,none⟩)),(108,[],.int .u32 (((((((((((((bt4 bl (4 * t) : Nat) : Int) * 16777216) % 4294967296)).toNat ||| (((((bt4 bl (4 * t + 1) : Nat) : Int) * 65536) % 4294967296)).toNat : Nat) : Int)).toNat ||| (((((bt4 bl (4 * t + 2) : Nat) : Int) * 256) % 4294967296)).toNat : Nat) : Int)).toNat ||| (((bt4 bl (4 * t + 3) : Nat) : Int)).toNat : Nat) : Int)),(10,[],.int .i64 (t : Int)),(9,[],.slice (some ⟨wb,0,none⟩) 64 64),(8,[],.int .i64 (((64 * q) : Nat) : Int)),(7,[],.slice (some ⟨cb,0,none⟩) 64 64),(6,[],.slice (some ⟨hb,0,none⟩) 8 8),(3,[],.slice (some ⟨mo.b,0,none⟩) (s.size + 1 + ((119 - s.size % 64) % 64) + 8) mo.cap),(2,[],pT rs)]) (nd := (fun S => [(i6 (4 * (t : Int))),(i6 ((((64 * q) : Nat) : Int) + (4 * (t : Int)))),(0 ≤ ((((64 * q) : Nat) : Int) + (4 * (t : Int))) ∧ ((((64 * q) : Nat) : Int) + (4 * (t : Int))) < (((s.size + 1 + ((119 - s.size % 64) % 64) + 8) : Nat) : Int)),(∀ w1,S w1 → w1.cell? ⟨mo.b,(((64 * q)) + (4 * t)),none⟩ = some (.int .u8 ((bt4 bl (4 * t) : Nat) : Int))),((0 : Int) ≤ ((bt4 bl (4 * t) : Nat) : Int) ∧ ((bt4 bl (4 * t) : Nat) : Int) ≤ 4294967295),(0 ≤ (24 : Int) ∧ 24 ≤ 32),(i6 (4 * (t : Int))),(i6 ((((64 * q) : Nat) : Int) + (4 * (t : Int)))),(i6 (((((64 * q) : Nat) : Int) + (4 * (t : Int))) + 1)),(0 ≤ (((((64 * q) : Nat) : Int) + (4 * (t : Int))) + 1) ∧ (((((64 * q) : Nat) : Int) + (4 * (t : Int))) + 1) < (((s.size + 1 + ((119 - s.size % 64) % 64) + 8) : Nat) : Int)),(∀ w1,S w1 → w1.cell? ⟨mo.b,((((64 * q)) + (4 * t)) + 1),none⟩ = some (.int .u8 ((bt4 bl (4 * t + 1) : Nat) : Int))),((0 : Int) ≤ ((bt4 bl (4 * t + 1) : Nat) : Int) ∧ ((bt4 bl (4 * t + 1) : Nat) : Int) ≤ 4294967295),(0 ≤ (16 : Int) ∧ 16 ≤ 32),((0 ≤ ((((bt4 bl (4 * t) : Nat) : Int) * 16777216) % 4294967296) ∧ ((((bt4 bl (4 * t) : Nat) : Int) * 16777216) % 4294967296) ≤ 4294967295) ∧ 0 ≤ ((((bt4 bl (4 * t + 1) : Nat) : Int) * 65536) % 4294967296) ∧ ((((bt4 bl (4 * t + 1) : Nat) : Int) * 65536) % 4294967296) ≤ 4294967295),(i6 (4 * (t : Int))),(i6 ((((64 * q) : Nat) : Int) + (4 * (t : Int)))),(i6 (((((64 * q) : Nat) : Int) + (4 * (t : Int))) + 2)),(0 ≤ (((((64 * q) : Nat) : Int) + (4 * (t : Int))) + 2) ∧ (((((64 * q) : Nat) : Int) + (4 * (t : Int))) + 2) < (((s.size + 1 + ((119 - s.size % 64) % 64) + 8) : Nat) : Int)),(∀ w1,S w1 → w1.cell? ⟨mo.b,((((64 * q)) + (4 * t)) + 2),none⟩ = some (.int .u8 ((bt4 bl (4 * t + 2) : Nat) : Int))),((0 : Int) ≤ ((bt4 bl (4 * t + 2) : Nat) : Int) ∧ ((bt4 bl (4 * t + 2) : Nat) : Int) ≤ 4294967295),(0 ≤ (8 : Int) ∧ 8 ≤ 32),((0 ≤ (((((((bt4 bl (4 * t) : Nat) : Int) * 16777216) % 4294967296)).toNat ||| (((((bt4 bl (4 * t + 1) : Nat) : Int) * 65536) % 4294967296)).toNat : Nat) : Int) ∧ (((((((bt4 bl (4 * t) : Nat) : Int) * 16777216) % 4294967296)).toNat ||| (((((bt4 bl (4 * t + 1) : Nat) : Int) * 65536) % 4294967296)).toNat : Nat) : Int) ≤ 4294967295) ∧ 0 ≤ ((((bt4 bl (4 * t + 2) : Nat) : Int) * 256) % 4294967296) ∧ ((((bt4 bl (4 * t + 2) : Nat) : Int) * 256) % 4294967296) ≤ 4294967295),(i6 (4 * (t : Int))),(i6 ((((64 * q) : Nat) : Int) + (4 * (t : Int)))),(i6 (((((64 * q) : Nat) : Int) + (4 * (t : Int))) + 3)),(0 ≤ (((((64 * q) : Nat) : Int) + (4 * (t : Int))) + 3) ∧ (((((64 * q) : Nat) : Int) + (4 * (t : Int))) + 3) < (((s.size + 1 + ((119 - s.size % 64) % 64) + 8) : Nat) : Int)),(∀ w1,S w1 → w1.cell? ⟨mo.b,((((64 * q)) + (4 * t)) + 3),none⟩ = some (.int .u8 ((bt4 bl (4 * t + 3) : Nat) : Int))),((0 : Int) ≤ ((bt4 bl (4 * t + 3) : Nat) : Int) ∧ ((bt4 bl (4 * t + 3) : Nat) : Int) ≤ 4294967295),((0 ≤ ((((((((((bt4 bl (4 * t) : Nat) : Int) * 16777216) % 4294967296)).toNat ||| (((((bt4 bl (4 * t + 1) : Nat) : Int) * 65536) % 4294967296)).toNat : Nat) : Int)).toNat ||| (((((bt4 bl (4 * t + 2) : Nat) : Int) * 256) % 4294967296)).toNat : Nat) : Int) ∧ ((((((((((bt4 bl (4 * t) : Nat) : Int) * 16777216) % 4294967296)).toNat ||| (((((bt4 bl (4 * t + 1) : Nat) : Int) * 65536) % 4294967296)).toNat : Nat) : Int)).toNat ||| (((((bt4 bl (4 * t + 2) : Nat) : Int) * 256) % 4294967296)).toNat : Nat) : Int) ≤ 4294967295) ∧ 0 ≤ ((bt4 bl (4 * t + 3) : Nat) : Int) ∧ ((bt4 bl (4 * t + 3) : Nat) : Int) ≤ 4294967295),(iL (t : Int) 64)])) (fun _ => kr) ⟨om,om,om,(fun w1 h => by rw [hbl]; exact mo_byte h (mR (mL (List.mem_singleton.2 rfl))) om om om),(by have := bt4_lt bl (4 * t); omega),om,om,om,om,om,(fun w1 h => by rw [hbl]; exact mo_byte h (mR (mL (List.mem_singleton.2 rfl))) om om om),(by have := bt4_lt bl (4 * t + 1); omega),om,(by have := bt4_lt bl (4 * t); have := bt4_lt bl (4 * t + 1); omega),om,om,om,om,(fun w1 h => by rw [hbl]; exact mo_byte h (mR (mL (List.mem_singleton.2 rfl))) om om om),(by have := bt4_lt bl (4 * t + 2); omega),om,⟨⟨Int.natCast_nonneg _,le_pow (b := 32) (Nat.or_lt_two_pow (tm_lt _) (tm_lt _))⟩,⟨by omega,by omega⟩⟩,om,om,om,om,(fun w1 h => by rw [hbl]; exact mo_byte h (mR (mL (List.mem_singleton.2 rfl))) om om om),(by have := bt4_lt bl (4 * t + 3); omega),⟨⟨Int.natCast_nonneg _,le_pow (b := 32) (Nat.or_lt_two_pow (tn_lt (Nat.or_lt_two_pow (tm_lt _) (tm_lt _))) (tm_lt _))⟩,⟨Int.natCast_nonneg _,le_pow (b := 32) (b84 _ _)⟩⟩,om,trivial⟩ ?_
         refine Ae 44 rfl 0  (Eff.store1 (b := wb) (off := t) (v := .int .u32 (((((((((((((bt4 bl (4 * t) : Nat) : Int) * 16777216) % 4294967296)).toNat ||| (((((bt4 bl (4 * t + 1) : Nat) : Int) * 65536) % 4294967296)).toNat : Nat) : Int)).toNat ||| (((((bt4 bl (4 * t + 2) : Nat) : Int) * 256) % 4294967296)).toNat : Nat) : Int)).toNat ||| (((bt4 bl (4 * t + 3) : Nat) : Int)).toNat : Nat) : Int)) rfl kr kr rfl kr 0 (cs := (wv (row bl t))) (e := 69) kr (by rw [wsize]; omega)) (fun _ _ => (.cons _ slr)) ?_
         rintro ⟨⟩ -
         refine CfgA.done kr ?_
         refine Cg (Γ' := [(10,[],.int .i64 (t : Int)),(9,[],.slice (some ⟨wb,0,none⟩) 64 64),(8,[],.int .i64 (((64 * q) : Nat) : Int)),(7,[],.slice (some ⟨cb,0,none⟩) 64 64),(6,[],.slice (some ⟨hb,0,none⟩) 8 8),(3,[],.slice (some ⟨mo.b,0,none⟩) (s.size + 1 + ((119 - s.size % 64) % 64) + 8) mo.cap),(2,[],pT rs)]) ?_
         refine Rg [2,3,6,7,8,9,10] [] (fun _ => [(i6 ((t : Int) + 1))]) ⟨om,trivial⟩ ?_
         refine Cfg.setO (congrArg (fun (xq : Array Value) => (([(wb,.cells xq 69 (0,0)),(cb,.cells (wv Kc) 69 (0,0)),(hb,.cells (wv hs) 69 (0,0)),(rs,.cells (bv (List.replicate 32 0)) 36 (0,0))] ++ (MO.o 5 ((bv M).toList) mo ++ [])) : LO)) (show _ = (wv (row bl (t + 1))) from row_step bl t (wnext_lo om (be4_eq _ _ _ _)))) ?_
         refine Cfg.again rfl (t + 1) (by show t + 1 ≤ 16; omega) (by show 16 - (t + 1) < 16 - t; omega) (Conv.mk kr) slr
        ·have c4 := (dF c4r)
         obtain rfl : t = 16 := by omega
         refine Conv.cfg (Γ' := [(9,[],.slice (some ⟨wb,0,none⟩) 64 64),(8,[],.int .i64 (((64 * q) : Nat) : Int)),(7,[],.slice (some ⟨cb,0,none⟩) 64 64),(6,[],.slice (some ⟨hb,0,none⟩) 8 8),(3,[],.slice (some ⟨mo.b,0,none⟩) (s.size + 1 + ((119 - s.size % 64) % 64) + 8) mo.cap),(2,[],pT rs)]) (Conv.mk kr) ?_
         refine Rg [2,3,6,7,8,9,11] [] n0 trivial ?_
         refine Cfg.loop rfl (ι := Nat) (fun (t : Nat) => [(11,[],.int .i64 (t : Int)),(9,[],.slice (some ⟨wb,0,none⟩) 64 64),(8,[],.int .i64 (((64 * q) : Nat) : Int)),(7,[],.slice (some ⟨cb,0,none⟩) 64 64),(6,[],.slice (some ⟨hb,0,none⟩) 8 8),(3,[],.slice (some ⟨mo.b,0,none⟩) (s.size + 1 + ((119 - s.size % 64) % 64) + 8) mo.cap),(2,[],pT rs)]) (fun (t : Nat) => ([(wb,.cells (wv (row bl t)) 69 (0,0)),(cb,.cells (wv Kc) 69 (0,0)),(hb,.cells (wv hs) 69 (0,0)),(rs,.cells (bv (List.replicate 32 0)) 36 (0,0))] ++ (MO.o 5 ((bv M).toList) mo ++ []))) (fun (t : Nat) => (16 ≤ t) ∧ (t ≤ 64)) (fun (t : Nat) => 64 - t) 16 ?_ (Conv.mk kr) slr ?_
         ·exact ⟨Nat.le_refl _,by decide⟩
         ·rintro t ⟨ht0,ht⟩
          refine Rg [2,3,6,7,8,9,11,111] [] n0 trivial ?_
          refine Cfg.cond rfl (b := (decide ((t : Int) < (64 : Int)))) kr (fun c5r => ?_) (fun c5r => ?_)
          ·have c5 := (dT c5r)
           refine Cfg.begA rfl kr ([(wb,.cells (wv (row bl t)) 69 (0,0)),(cb,.cells (wv Kc) 69 (0,0)),(hb,.cells (wv hs) 69 (0,0)),(rs,.cells (bv (List.replicate 32 0)) 36 (0,0))] ++ (MO.o 5 ((bv M).toList) mo ++ [])) ?_
           refine Ap [0,1,2,3,4,6,7,8,9,10,13,14,15,16,17,18] [dZ,dZ,dZ,dZ,(dS (.int .u32 ((rg (row bl t) (t - 15) : Nat) : Int))),dZ,dZ,dZ,dZ,(dS (.int .u32 ((rg (row bl t) (t - 15) : Nat) : Int))),dZ,dZ,dZ,dZ,(dS (.int .u32 ((rg (row bl t) (t - 15) : Nat) : Int)))] (some [2,3,6,7,8,9,11,118,124,132]) (bF 518111 21) slr 5 (fun S => [(i6 ((t : Int) - 15)),(iL ((t : Int) - 15) 64),(cE S wb ((((t : Int) - 15)).toNat) (.int .u32 ((rg (row bl t) (t - 15) : Nat) : Int))),(i6 ((t : Int) - 15)),(iL ((t : Int) - 15) 64),(cE S wb ((((t : Int) - 15)).toNat) (.int .u32 ((rg (row bl t) (t - 15) : Nat) : Int))),(i6 ((t : Int) - 15)),(iL ((t : Int) - 15) 64),(cE S wb ((((t : Int) - 15)).toNat) (.int .u32 ((rg (row bl t) (t - 15) : Nat) : Int))),(0 ≤ (3 : Int) ∧ 3 ≤ 32)]) ⟨om,om,(fun w1 h => h.ocell 0 rfl (by rw [show (((t : Int) - 15)).toNat = (t - 15) by omega]; exact wv_get (row_len _ t) om)),om,om,(fun w1 h => h.ocell 0 rfl (by rw [show (((t : Int) - 15)).toNat = (t - 15) by omega]; exact wv_get (row_len _ t) om)),om,om,(fun w1 h => h.ocell 0 rfl (by rw [show (((t : Int) - 15)).toNat = (t - 15) by omega]; exact wv_get (row_len _ t) om)),om,trivial⟩ ?_
           refine Ae 5 rfl 4  (Eff.callA (vs := [.int .u32 ((rg (row bl t) (t - 15) : Nat) : Int),.int .i64 7]) (.int .u32 ((rotl (rg (row bl t) (t - 15)) 33554432 128 : Nat) : Int)) rfl Tryz.func29 rfl rfl kr (fun w1 _ => rRotr7 _ w1 (row_lt _ t _))) (fun _ _ => slr) ?_
           rintro ⟨⟩ -
           refine Ae 11 rfl 3  (Eff.callA (vs := [.int .u32 ((rg (row bl t) (t - 15) : Nat) : Int),.int .i64 18]) (.int .u32 ((rotl (rg (row bl t) (t - 15)) 16384 262144 : Nat) : Int)) rfl Tryz.func29 rfl rfl kr (fun w1 _ => rRotr18 _ w1 (row_lt _ t _))) (fun _ _ => slr) ?_
           rintro ⟨⟩ -
           refine Ap [12,19,20] [] (some [2,3,6,7,8,9,11,12]) (tF 21 0) slr 0 (fun _ => [((0 ≤ ((rotl (rg (row bl t) (t - 15)) 33554432 128 : Nat) : Int) ∧ ((rotl (rg (row bl t) (t - 15)) 33554432 128 : Nat) : Int) ≤ 4294967295) ∧ 0 ≤ ((rotl (rg (row bl t) (t - 15)) 16384 262144 : Nat) : Int) ∧ ((rotl (rg (row bl t) (t - 15)) 16384 262144 : Nat) : Int) ≤ 4294967295),((0 ≤ (((((rotl (rg (row bl t) (t - 15)) 33554432 128 : Nat) : Int)).toNat ^^^ (((rotl (rg (row bl t) (t - 15)) 16384 262144 : Nat) : Int)).toNat : Nat) : Int) ∧ (((((rotl (rg (row bl t) (t - 15)) 33554432 128 : Nat) : Int)).toNat ^^^ (((rotl (rg (row bl t) (t - 15)) 16384 262144 : Nat) : Int)).toNat : Nat) : Int) ≤ 4294967295) ∧ 0 ≤ (((rg (row bl t) (t - 15) : Nat) : Int) / 8) ∧ (((rg (row bl t) (t - 15) : Nat) : Int) / 8) ≤ 4294967295)]) ⟨⟨⟨Int.natCast_nonneg _,le_pow (b := 32) (rotl_lt (row_lt _ t _))⟩,⟨Int.natCast_nonneg _,le_pow (b := 32) (rotl_lt (row_lt _ t _))⟩⟩,⟨⟨Int.natCast_nonneg _,le_pow (b := 32) (Nat.xor_lt_two_pow (tn_lt (rotl_lt (row_lt _ t _))) (tn_lt (rotl_lt (row_lt _ t _))))⟩,⟨Int.natCast_nonneg _,le_pow (b := 32) (Nat.lt_of_le_of_lt (Nat.div_le_self _ _) (row_lt _ t _))⟩⟩,trivial⟩ ?_
           refine CfgA.done kr ?_
           refine Cfg.setS 12 (congrArg (fun (xq : Int) => (.int .u32 xq : Value)) (show ((((((((rotl (rg (row bl t) (t - 15)) 33554432 128 : Nat) : Int)).toNat ^^^ (((rotl (rg (row bl t) (t - 15)) 16384 262144 : Nat) : Int)).toNat : Nat) : Int)).toNat ^^^ ((((rg (row bl t) (t - 15) : Nat) : Int) / 8)).toNat : Nat) : Int) = ((wlow (rg (row bl t) (t - 15)) : Nat) : Int) from (congrArg (fun n : Nat => (n : Int)) (x3 _ _ _ _ (d3 _))))) ?_
           refine Cfg.begA rfl kr ([(wb,.cells (wv (row bl t)) 69 (0,0)),(cb,.cells (wv Kc) 69 (0,0)),(hb,.cells (wv hs) 69 (0,0)),(rs,.cells (bv (List.replicate 32 0)) 36 (0,0))] ++ (MO.o 5 ((bv M).toList) mo ++ [])) ?_
           refine Ap [0,1,2,3,4,6,7,8,9,10,13,14,15,16,17,18] [dZ,dZ,dZ,dZ,(dS (.int .u32 ((rg (row bl t) (t - 2) : Nat) : Int))),dZ,dZ,dZ,dZ,(dS (.int .u32 ((rg (row bl t) (t - 2) : Nat) : Int))),dZ,dZ,dZ,dZ,(dS (.int .u32 ((rg (row bl t) (t - 2) : Nat) : Int)))] (some [2,3,6,7,8,9,11,12,138,144,152]) (bF 518111 21) slr 5 (fun S => [(i6 ((t : Int) - 2)),(iL ((t : Int) - 2) 64),(cE S wb ((((t : Int) - 2)).toNat) (.int .u32 ((rg (row bl t) (t - 2) : Nat) : Int))),(i6 ((t : Int) - 2)),(iL ((t : Int) - 2) 64),(cE S wb ((((t : Int) - 2)).toNat) (.int .u32 ((rg (row bl t) (t - 2) : Nat) : Int))),(i6 ((t : Int) - 2)),(iL ((t : Int) - 2) 64),(cE S wb ((((t : Int) - 2)).toNat) (.int .u32 ((rg (row bl t) (t - 2) : Nat) : Int))),(0 ≤ (10 : Int) ∧ 10 ≤ 32)]) ⟨om,om,(fun w1 h => h.ocell 0 rfl (by rw [show (((t : Int) - 2)).toNat = (t - 2) by omega]; exact wv_get (row_len _ t) om)),om,om,(fun w1 h => h.ocell 0 rfl (by rw [show (((t : Int) - 2)).toNat = (t - 2) by omega]; exact wv_get (row_len _ t) om)),om,om,(fun w1 h => h.ocell 0 rfl (by rw [show (((t : Int) - 2)).toNat = (t - 2) by omega]; exact wv_get (row_len _ t) om)),om,trivial⟩ ?_
           refine Ae 5 rfl 4  (Eff.callA (vs := [.int .u32 ((rg (row bl t) (t - 2) : Nat) : Int),.int .i64 17]) (.int .u32 ((rotl (rg (row bl t) (t - 2)) 32768 131072 : Nat) : Int)) rfl Tryz.func29 rfl rfl kr (fun w1 _ => rRotr17 _ w1 (row_lt _ t _))) (fun _ _ => slr) ?_
           rintro ⟨⟩ -
           refine Ae 11 rfl 3  (Eff.callA (vs := [.int .u32 ((rg (row bl t) (t - 2) : Nat) : Int),.int .i64 19]) (.int .u32 ((rotl (rg (row bl t) (t - 2)) 8192 524288 : Nat) : Int)) rfl Tryz.func29 rfl rfl kr (fun w1 _ => rRotr19 _ w1 (row_lt _ t _))) (fun _ _ => slr) ?_
           rintro ⟨⟩ -
           refine Ap [12,19,20] [] (some [2,3,6,7,8,9,11,12,13]) (tF 21 0) slr 0 (fun _ => [((0 ≤ ((rotl (rg (row bl t) (t - 2)) 32768 131072 : Nat) : Int) ∧ ((rotl (rg (row bl t) (t - 2)) 32768 131072 : Nat) : Int) ≤ 4294967295) ∧ 0 ≤ ((rotl (rg (row bl t) (t - 2)) 8192 524288 : Nat) : Int) ∧ ((rotl (rg (row bl t) (t - 2)) 8192 524288 : Nat) : Int) ≤ 4294967295),((0 ≤ (((((rotl (rg (row bl t) (t - 2)) 32768 131072 : Nat) : Int)).toNat ^^^ (((rotl (rg (row bl t) (t - 2)) 8192 524288 : Nat) : Int)).toNat : Nat) : Int) ∧ (((((rotl (rg (row bl t) (t - 2)) 32768 131072 : Nat) : Int)).toNat ^^^ (((rotl (rg (row bl t) (t - 2)) 8192 524288 : Nat) : Int)).toNat : Nat) : Int) ≤ 4294967295) ∧ 0 ≤ (((rg (row bl t) (t - 2) : Nat) : Int) / 1024) ∧ (((rg (row bl t) (t - 2) : Nat) : Int) / 1024) ≤ 4294967295)]) ⟨⟨⟨Int.natCast_nonneg _,le_pow (b := 32) (rotl_lt (row_lt _ t _))⟩,⟨Int.natCast_nonneg _,le_pow (b := 32) (rotl_lt (row_lt _ t _))⟩⟩,⟨⟨Int.natCast_nonneg _,le_pow (b := 32) (Nat.xor_lt_two_pow (tn_lt (rotl_lt (row_lt _ t _))) (tn_lt (rotl_lt (row_lt _ t _))))⟩,⟨Int.natCast_nonneg _,le_pow (b := 32) (Nat.lt_of_le_of_lt (Nat.div_le_self _ _) (row_lt _ t _))⟩⟩,trivial⟩ ?_
           refine CfgA.done kr ?_
           refine Cfg.setS 13 (congrArg (fun (xq : Int) => (.int .u32 xq : Value)) (show ((((((((rotl (rg (row bl t) (t - 2)) 32768 131072 : Nat) : Int)).toNat ^^^ (((rotl (rg (row bl t) (t - 2)) 8192 524288 : Nat) : Int)).toNat : Nat) : Int)).toNat ^^^ ((((rg (row bl t) (t - 2) : Nat) : Int) / 1024)).toNat : Nat) : Int) = ((whigh (rg (row bl t) (t - 2)) : Nat) : Int) from (congrArg (fun n : Nat => (n : Int)) (x3 _ _ _ _ (d10 _))))) ?_
           refine Cfg.begA rfl kr ([(cb,.cells (wv Kc) 69 (0,0)),(hb,.cells (wv hs) 69 (0,0)),(rs,.cells (bv (List.replicate 32 0)) 36 (0,0))] ++ (MO.o 5 ((bv M).toList) mo ++ [])) ?_
           refine Ap [0,1,2,3,4,5,7,9,10,11,12,15] [] (some [2,3,6,7,8,9,11,154,155,159,161,166,169]) (bF 40639 19) (.cons _ slr) 7 (fun _ => [(i6 ((t : Int) - 16)),(iL ((t : Int) - 16) 64),(i6 ((t : Int) - 7)),(iL ((t : Int) - 7) 64)]) ⟨om,om,om,om,trivial⟩ ?_
           refine CfgA.two 6 13 kr (fuel' := 6) rfl ?_ ?_
           ·
            refine Ie rfl  (Eff.quiet (raw := false) (orc := some (.int .u32 ((rg (row bl t) (t - 16) : Nat) : Int))) (v := .int .u32 ((rg (row bl t) (t - 16) : Nat) : Int)) (nd := (fun S => [(cE S wb ((((t : Int) - 16)).toNat) (.int .u32 ((rg (row bl t) (t - 16) : Nat) : Int)))])) (fun _ => kr) ⟨(fun w1 h => h.ocell 0 rfl (by rw [show (((t : Int) - 16)).toNat = (t - 16) by omega]; exact wv_get (row_len _ t) om)),trivial⟩ kr) (fun _ _ => (.cons _ slr)) ?_
            rintro ⟨⟩ -
            refine Ap [8] [] (some [2,3,6,7,8,9,11,154,155,162,166,169]) (bF 40959 19) (.cons _ slr) 5 n0 trivial ?_
            refine Ae 13 rfl 4  (Eff.quiet (raw := false) (orc := some (.int .u32 ((rg (row bl t) (t - 7) : Nat) : Int))) (v := .int .u32 ((rg (row bl t) (t - 7) : Nat) : Int)) (nd := (fun S => [(cE S wb ((((t : Int) - 7)).toNat) (.int .u32 ((rg (row bl t) (t - 7) : Nat) : Int)))])) (fun _ => kr) ⟨(fun w1 h => h.ocell 0 rfl (by rw [show (((t : Int) - 7)).toNat = (t - 7) by omega]; exact wv_get (row_len _ t) om)),trivial⟩ kr) (fun _ _ => (.cons _ slr)) ?_
            rintro ⟨⟩ -
            refine Ap [14,16,17] [] (some [2,3,6,7,8,9,11,170,171]) (tF 18 1) (.cons _ slr) 1 (fun _ => [(iL (t : Int) 64)]) ⟨om,trivial⟩ ?_
            refine Ae 18 rfl 0  (Eff.store1 (b := wb) (off := t) (v := .int .u32 ((((((((rg (row bl t) (t - 16) : Nat) : Int) + ((wlow (rg (row bl t) (t - 15)) : Nat) : Int)) % 4294967296) + ((rg (row bl t) (t - 7) : Nat) : Int)) % 4294967296) + ((whigh (rg (row bl t) (t - 2)) : Nat) : Int)) % 4294967296)) rfl kr kr rfl kr 0 (cs := (wv (row bl t))) (e := 69) kr (by rw [wsize]; omega)) (fun _ _ => (.cons _ slr)) ?_
            rintro ⟨⟩ -
            refine CfgA.done kr ?_
            refine Cg (Γ' := [(11,[],.int .i64 (t : Int)),(9,[],.slice (some ⟨wb,0,none⟩) 64 64),(8,[],.int .i64 (((64 * q) : Nat) : Int)),(7,[],.slice (some ⟨cb,0,none⟩) 64 64),(6,[],.slice (some ⟨hb,0,none⟩) 8 8),(3,[],.slice (some ⟨mo.b,0,none⟩) (s.size + 1 + ((119 - s.size % 64) % 64) + 8) mo.cap),(2,[],pT rs)]) ?_
            refine Rg [2,3,6,7,8,9,11] [] (fun _ => [(i6 ((t : Int) + 1))]) ⟨om,trivial⟩ ?_
            refine Cfg.setO (congrArg (fun (xq : Array Value) => (([(wb,.cells xq 69 (0,0)),(cb,.cells (wv Kc) 69 (0,0)),(hb,.cells (wv hs) 69 (0,0)),(rs,.cells (bv (List.replicate 32 0)) 36 (0,0))] ++ (MO.o 5 ((bv M).toList) mo ++ [])) : LO)) (show _ = (wv (row bl (t + 1))) from row_step bl t (wnext_hi om (wn_eq2 _ _ _ _)))) ?_
            refine Cfg.again rfl (t + 1) ⟨by omega,by omega⟩ (by show 64 - (t + 1) < 64 - t; omega) (Conv.mk kr) slr
           ·
            refine Ie rfl  (Eff.quiet (raw := false) (orc := some (.int .u32 ((rg (row bl t) (t - 7) : Nat) : Int))) (v := .int .u32 ((rg (row bl t) (t - 7) : Nat) : Int)) (nd := (fun S => [(cE S wb ((((t : Int) - 7)).toNat) (.int .u32 ((rg (row bl t) (t - 7) : Nat) : Int)))])) (fun _ => kr) ⟨(fun w1 h => h.ocell 0 rfl (by rw [show (((t : Int) - 7)).toNat = (t - 7) by omega]; exact wv_get (row_len _ t) om)),trivial⟩ kr) (fun _ _ => (.cons _ slr)) ?_
            rintro ⟨⟩ -
            refine Ae 6 rfl 5  (Eff.quiet (raw := false) (orc := some (.int .u32 ((rg (row bl t) (t - 16) : Nat) : Int))) (v := .int .u32 ((rg (row bl t) (t - 16) : Nat) : Int)) (nd := (fun S => [(cE S wb ((((t : Int) - 16)).toNat) (.int .u32 ((rg (row bl t) (t - 16) : Nat) : Int)))])) (fun _ => kr) ⟨(fun w1 h => h.ocell 0 rfl (by rw [show (((t : Int) - 16)).toNat = (t - 16) by omega]; exact wv_get (row_len _ t) om)),trivial⟩ kr) (fun _ _ => (.cons _ slr)) ?_
            rintro ⟨⟩ -
            refine Ap [8,14,16,17] [] (some [2,3,6,7,8,9,11,170,171]) (tF 18 1) (.cons _ slr) 1 (fun _ => [(iL (t : Int) 64)]) ⟨om,trivial⟩ ?_
            refine Ae 18 rfl 0  (Eff.store1 (b := wb) (off := t) (v := .int .u32 ((((((((rg (row bl t) (t - 16) : Nat) : Int) + ((wlow (rg (row bl t) (t - 15)) : Nat) : Int)) % 4294967296) + ((rg (row bl t) (t - 7) : Nat) : Int)) % 4294967296) + ((whigh (rg (row bl t) (t - 2)) : Nat) : Int)) % 4294967296)) rfl kr kr rfl kr 0 (cs := (wv (row bl t))) (e := 69) kr (by rw [wsize]; omega)) (fun _ _ => (.cons _ slr)) ?_
            rintro ⟨⟩ -
            refine CfgA.done kr ?_
            refine Cg (Γ' := [(11,[],.int .i64 (t : Int)),(9,[],.slice (some ⟨wb,0,none⟩) 64 64),(8,[],.int .i64 (((64 * q) : Nat) : Int)),(7,[],.slice (some ⟨cb,0,none⟩) 64 64),(6,[],.slice (some ⟨hb,0,none⟩) 8 8),(3,[],.slice (some ⟨mo.b,0,none⟩) (s.size + 1 + ((119 - s.size % 64) % 64) + 8) mo.cap),(2,[],pT rs)]) ?_
            refine Rg [2,3,6,7,8,9,11] [] (fun _ => [(i6 ((t : Int) + 1))]) ⟨om,trivial⟩ ?_
            refine Cfg.setO (congrArg (fun (xq : Array Value) => (([(wb,.cells xq 69 (0,0)),(cb,.cells (wv Kc) 69 (0,0)),(hb,.cells (wv hs) 69 (0,0)),(rs,.cells (bv (List.replicate 32 0)) 36 (0,0))] ++ (MO.o 5 ((bv M).toList) mo ++ [])) : LO)) (show _ = (wv (row bl (t + 1))) from row_step bl t (wnext_hi om (wn_eq2 _ _ _ _)))) ?_
            refine Cfg.again rfl (t + 1) ⟨by omega,by omega⟩ (by show 64 - (t + 1) < 64 - t; omega) (Conv.mk kr) slr
          ·have c5 := (dF c5r)
           obtain rfl : t = 64 := by omega
           refine Conv.cfg (Γ' := [(9,[],.slice (some ⟨wb,0,none⟩) 64 64),(8,[],.int .i64 (((64 * q) : Nat) : Int)),(7,[],.slice (some ⟨cb,0,none⟩) 64 64),(6,[],.slice (some ⟨hb,0,none⟩) 8 8),(3,[],.slice (some ⟨mo.b,0,none⟩) (s.size + 1 + ((119 - s.size % 64) % 64) + 8) mo.cap),(2,[],pT rs)]) (Conv.mk kr) ?_
           refine Cfg.begA rfl kr ([(wb,.cells (wv (row bl 64)) 69 (0,0)),(cb,.cells (wv Kc) 69 (0,0)),(hb,.cells (wv hs) 69 (0,0)),(rs,.cells (bv (List.replicate 32 0)) 36 (0,0))] ++ (MO.o 5 ((bv M).toList) mo ++ [])) ?_
           refine Ap (List.range 24) [dZ,dZ,(dS (.int .u32 (rg hs 0 : Int))),dZ,dZ,(dS (.int .u32 (rg hs 1 : Int))),dZ,dZ,(dS (.int .u32 (rg hs 2 : Int))),dZ,dZ,(dS (.int .u32 (rg hs 3 : Int))),dZ,dZ,(dS (.int .u32 (rg hs 4 : Int))),dZ,dZ,(dS (.int .u32 (rg hs 5 : Int))),dZ,dZ,(dS (.int .u32 (rg hs 6 : Int))),dZ,dZ,(dS (.int .u32 (rg hs 7 : Int)))] (some [2,3,6,7,8,9,174,177,180,183,186,189,192,195]) (tF 24 2) slr 2 (fun S => [(iL (0 : Int) 8),(cE S hb 0 (.int .u32 (rg hs 0 : Int))),(iL (1 : Int) 8),(cE S hb 1 (.int .u32 (rg hs 1 : Int))),(iL (2 : Int) 8),(cE S hb 2 (.int .u32 (rg hs 2 : Int))),(iL (3 : Int) 8),(cE S hb 3 (.int .u32 (rg hs 3 : Int))),(iL (4 : Int) 8),(cE S hb 4 (.int .u32 (rg hs 4 : Int))),(iL (5 : Int) 8),(cE S hb 5 (.int .u32 (rg hs 5 : Int))),(iL (6 : Int) 8),(cE S hb 6 (.int .u32 (rg hs 6 : Int))),(iL (7 : Int) 8),(cE S hb 7 (.int .u32 (rg hs 7 : Int)))]) ⟨om,(oC 2 rfl (wv_get hh om)),om,(oC 2 rfl (wv_get hh om)),om,(oC 2 rfl (wv_get hh om)),om,(oC 2 rfl (wv_get hh om)),om,(oC 2 rfl (wv_get hh om)),om,(oC 2 rfl (wv_get hh om)),om,(oC 2 rfl (wv_get hh om)),om,(oC 2 rfl (wv_get hh om)),trivial⟩ ?_
           refine Ae 24 rfl 1  (Eff.buildSlice (e := 69) (cells := #[.int .u32 (rg hs 0 : Int),.int .u32 (rg hs 1 : Int),.int .u32 (rg hs 2 : Int),.int .u32 (rg hs 3 : Int),.int .u32 (rg hs 4 : Int),.int .u32 (rg hs 5 : Int),.int .u32 (rg hs 6 : Int),.int .u32 (rg hs 7 : Int)]) (parts := #[(0,.int .u32 (rg hs 0 : Int)),(1,.int .u32 (rg hs 1 : Int)),(2,.int .u32 (rg hs 2 : Int)),(3,.int .u32 (rg hs 3 : Int)),(4,.int .u32 (rg hs 4 : Int)),(5,.int .u32 (rg hs 5 : Int)),(6,.int .u32 (rg hs 6 : Int)),(7,.int .u32 (rg hs 7 : Int))]) rfl kr (fun _ => kr)) (fun _ _ => (.cons _ slr)) ?_
           rintro va ⟨hva,nva⟩
           refine Ap [25] [] (some [2,3,6,7,8,9,14]) (tF 26 0) (.cons _ slr) 0 n0 trivial ?_
           refine CfgA.done kr ?_
           refine Rg [2,3,6,7,8,9,14,15] [] n0 trivial ?_
           refine Cfg.setO (congrArg (fun (xq : Array Value) => (([(va,.cells xq 69 (0,0)),(wb,.cells (wv (row bl 64)) 69 (0,0)),(cb,.cells (wv Kc) 69 (0,0)),(hb,.cells (wv hs) 69 (0,0)),(rs,.cells (bv (List.replicate 32 0)) 36 (0,0))] ++ (MO.o 5 ((bv M).toList) mo ++ [])) : LO)) (show _ = (wv (w8l (rv hs bl 0))) from rfl)) ?_
           refine Cfg.loop rfl (ι := Nat × Nat) (fun (xz : Nat × Nat) => match xz with | (t,v) => [(15,[],.int .i64 (t : Int)),(14,[],.slice (some ⟨v,0,none⟩) 8 8),(9,[],.slice (some ⟨wb,0,none⟩) 64 64),(8,[],.int .i64 (((64 * q) : Nat) : Int)),(7,[],.slice (some ⟨cb,0,none⟩) 64 64),(6,[],.slice (some ⟨hb,0,none⟩) 8 8),(3,[],.slice (some ⟨mo.b,0,none⟩) (s.size + 1 + ((119 - s.size % 64) % 64) + 8) mo.cap),(2,[],pT rs)]) (fun (xz : Nat × Nat) => match xz with | (t,v) => ([(v,.cells (wv (w8l (rv hs bl t))) 69 (0,0)),(wb,.cells (wv (row bl 64)) 69 (0,0)),(cb,.cells (wv Kc) 69 (0,0)),(hb,.cells (wv hs) 69 (0,0)),(rs,.cells (bv (List.replicate 32 0)) 36 (0,0))] ++ (MO.o 5 ((bv M).toList) mo ++ []))) (fun (xz : Nat × Nat) => match xz with | (t,v) => (t ≤ 64)) (fun (xz : Nat × Nat) => match xz with | (t,v) => 64 - t) (0,va) ?_ (Conv.mk kr) slr ?_
           ·exact Nat.zero_le _
           ·rintro ⟨t,v⟩ ht
            have ok := rv_ok hlt bl t
            refine Rg [2,3,6,7,8,9,14,15,198] [] n0 trivial ?_
            refine Cfg.cond rfl (b := (decide ((t : Int) < (64 : Int)))) kr (fun c6r => ?_) (fun c6r => ?_)
            ·have c6 := (dT c6r)
             refine Cfg.begA rfl kr ([(v,.cells (wv (w8l (rv hs bl t))) 69 (0,0)),(wb,.cells (wv (row bl 64)) 69 (0,0)),(cb,.cells (wv Kc) 69 (0,0)),(hb,.cells (wv hs) 69 (0,0)),(rs,.cells (bv (List.replicate 32 0)) 36 (0,0))] ++ (MO.o 5 ((bv M).toList) mo ++ [])) ?_
             refine Ap [0,1,2,4,5,6,9,10,11] [dZ,dZ,(dS (.int .u32 ((rv hs bl t).e : Int))),dZ,dZ,(dS (.int .u32 ((rv hs bl t).e : Int))),dZ,dZ,(dS (.int .u32 ((rv hs bl t).e : Int)))] (some [2,3,6,7,8,9,14,15,203,207,212]) (bF 3703 15) slr 6 (fun S => [(iL (4 : Int) 8),(cE S v 4 (.int .u32 ((rv hs bl t).e : Int))),(iL (4 : Int) 8),(cE S v 4 (.int .u32 ((rv hs bl t).e : Int))),(iL (4 : Int) 8),(cE S v 4 (.int .u32 ((rv hs bl t).e : Int)))]) ⟨om,(oC 0 rfl rfl),om,(oC 0 rfl rfl),om,(oC 0 rfl rfl),trivial⟩ ?_
             refine Ae 3 rfl 5  (Eff.callA (vs := [.int .u32 ((rv hs bl t).e : Int),.int .i64 6]) (.int .u32 (rotl ((rv hs bl t).e) 67108864 64 : Int)) rfl Tryz.func29 rfl rfl kr (fun w1 _ => rRotr6 _ w1 ok.e)) (fun _ _ => slr) ?_
             rintro ⟨⟩ -
             refine Ae 7 rfl 4  (Eff.callA (vs := [.int .u32 ((rv hs bl t).e : Int),.int .i64 11]) (.int .u32 (rotl ((rv hs bl t).e) 2097152 2048 : Int)) rfl Tryz.func29 rfl rfl kr (fun w1 _ => rRotr11 _ w1 ok.e)) (fun _ _ => slr) ?_
             rintro ⟨⟩ -
             refine Ap [8] [] (some [2,3,6,7,8,9,14,15,209,212]) (tF 12 3) slr 3 (fun _ => [((0 ≤ (rotl ((rv hs bl t).e) 67108864 64 : Int) ∧ (rotl ((rv hs bl t).e) 67108864 64 : Int) ≤ 4294967295) ∧ 0 ≤ (rotl ((rv hs bl t).e) 2097152 2048 : Int) ∧ (rotl ((rv hs bl t).e) 2097152 2048 : Int) ≤ 4294967295)]) ⟨⟨⟨Int.natCast_nonneg _,le_pow (b := 32) (rotl_lt ok.e)⟩,⟨Int.natCast_nonneg _,le_pow (b := 32) (rotl_lt ok.e)⟩⟩,trivial⟩ ?_
             refine Ae 12 rfl 2  (Eff.callA (vs := [.int .u32 ((rv hs bl t).e : Int),.int .i64 25]) (.int .u32 (rotl ((rv hs bl t).e) 128 33554432 : Int)) rfl Tryz.func29 rfl rfl kr (fun w1 _ => rRotr25 _ w1 ok.e)) (fun _ _ => slr) ?_
             rintro ⟨⟩ -
             refine CfgA.pure [13,14] [] (some [2,3,6,7,8,9,14,15,16]) (l' := tF 15 0) kr kr slr 0 rfl (Γ' := [(16,[],.int .u32 (((((((rotl ((rv hs bl t).e) 67108864 64 : Int)).toNat ^^^ ((rotl ((rv hs bl t).e) 2097152 2048 : Int)).toNat : Nat) : Int)).toNat ^^^ ((rotl ((rv hs bl t).e) 128 33554432 : Int)).toNat : Nat) : Int)),(15,[],.int .i64 (t : Int)),(14,[],.slice (some ⟨v,0,none⟩) 8 8),(9,[],.slice (some ⟨wb,0,none⟩) 64 64),(8,[],.int .i64 (((64 * q) : Nat) : Int)),(7,[],.slice (some ⟨cb,0,none⟩) 64 64),(6,[],.slice (some ⟨hb,0,none⟩) 8 8),(3,[],.slice (some ⟨mo.b,0,none⟩) (s.size + 1 + ((119 - s.size % 64) % 64) + 8) mo.cap),(2,[],pT rs)]) (nd := (fun _ => [((0 ≤ ((((rotl ((rv hs bl t).e) 67108864 64 : Int)).toNat ^^^ ((rotl ((rv hs bl t).e) 2097152 2048 : Int)).toNat : Nat) : Int) ∧ ((((rotl ((rv hs bl t).e) 67108864 64 : Int)).toNat ^^^ ((rotl ((rv hs bl t).e) 2097152 2048 : Int)).toNat : Nat) : Int) ≤ 4294967295) ∧ 0 ≤ (rotl ((rv hs bl t).e) 128 33554432 : Int) ∧ (rotl ((rv hs bl t).e) 128 33554432 : Int) ≤ 4294967295)])) (fun _ => kr) ⟨⟨⟨Int.natCast_nonneg _,le_pow (b := 32) (Nat.xor_lt_two_pow (tn_lt (rotl_lt ok.e)) (tn_lt (rotl_lt ok.e)))⟩,⟨Int.natCast_nonneg _,le_pow (b := 32) (rotl_lt ok.e)⟩⟩,trivial⟩ ?_
             refine CfgA.done kr ?_
             refine Cfg.setS 16 (congrArg (fun (xq : Int) => (.int .u32 xq : Value)) (show (((((((rotl ((rv hs bl t).e) 67108864 64 : Int)).toNat ^^^ ((rotl ((rv hs bl t).e) 2097152 2048 : Int)).toNat : Nat) : Int)).toNat ^^^ ((rotl ((rv hs bl t).e) 128 33554432 : Int)).toNat : Nat) : Int) = (bigE (rv hs bl t).e : Int) from bigE_eq _)) ?_
             refine Cfg.regD rfl kr [2,3,6,7,8,9,14,15,16,17] [dZ,dZ,(dS (.int .u32 ((rv hs bl t).e : Int))),dZ,dZ,(dS (.int .u32 ((rv hs bl t).f : Int))),dZ,dZ,dZ,(dS (.int .u32 ((rv hs bl t).e : Int))),dZ,dZ,dZ,(dS (.int .u32 ((rv hs bl t).g : Int)))] (Γ' := [(17,[],.int .u32 ((((((((rv hs bl t).e : Int)).toNat &&& (((rv hs bl t).f : Int)).toNat : Nat) : Int)).toNat ^^^ ((((((4294967295 - ((rv hs bl t).e : Int)) % 4294967296)).toNat &&& (((rv hs bl t).g : Int)).toNat : Nat) : Int)).toNat : Nat) : Int)),(16,[],.int .u32 (bigE (rv hs bl t).e : Int)),(15,[],.int .i64 (t : Int)),(14,[],.slice (some ⟨v,0,none⟩) 8 8),(9,[],.slice (some ⟨wb,0,none⟩) 64 64),(8,[],.int .i64 (((64 * q) : Nat) : Int)),(7,[],.slice (some ⟨cb,0,none⟩) 64 64),(6,[],.slice (some ⟨hb,0,none⟩) 8 8),(3,[],.slice (some ⟨mo.b,0,none⟩) (s.size + 1 + ((119 - s.size % 64) % 64) + 8) mo.cap),(2,[],pT rs)]) (nd := (fun S => [(iL (4 : Int) 8),(cE S v 4 (.int .u32 ((rv hs bl t).e : Int))),(iL (5 : Int) 8),(cE S v 5 (.int .u32 ((rv hs bl t).f : Int))),((0 ≤ ((rv hs bl t).e : Int) ∧ ((rv hs bl t).e : Int) ≤ 4294967295) ∧ 0 ≤ ((rv hs bl t).f : Int) ∧ ((rv hs bl t).f : Int) ≤ 4294967295),(iL (4 : Int) 8),(cE S v 4 (.int .u32 ((rv hs bl t).e : Int))),(iL (6 : Int) 8),(cE S v 6 (.int .u32 ((rv hs bl t).g : Int))),((0 ≤ ((4294967295 - ((rv hs bl t).e : Int)) % 4294967296) ∧ ((4294967295 - ((rv hs bl t).e : Int)) % 4294967296) ≤ 4294967295) ∧ 0 ≤ ((rv hs bl t).g : Int) ∧ ((rv hs bl t).g : Int) ≤ 4294967295),((0 ≤ (((((rv hs bl t).e : Int)).toNat &&& (((rv hs bl t).f : Int)).toNat : Nat) : Int) ∧ (((((rv hs bl t).e : Int)).toNat &&& (((rv hs bl t).f : Int)).toNat : Nat) : Int) ≤ 4294967295) ∧ 0 ≤ (((((4294967295 - ((rv hs bl t).e : Int)) % 4294967296)).toNat &&& (((rv hs bl t).g : Int)).toNat : Nat) : Int) ∧ (((((4294967295 - ((rv hs bl t).e : Int)) % 4294967296)).toNat &&& (((rv hs bl t).g : Int)).toNat : Nat) : Int) ≤ 4294967295)])) kr kr (fun _ => kr) ⟨om,(oC 0 rfl rfl),om,(oC 0 rfl rfl),⟨⟨Int.natCast_nonneg _,le_pow (b := 32) ok.e⟩,⟨Int.natCast_nonneg _,le_pow (b := 32) ok.f⟩⟩,om,(oC 0 rfl rfl),om,(oC 0 rfl rfl),⟨⟨by omega,by omega⟩,⟨Int.natCast_nonneg _,le_pow (b := 32) ok.g⟩⟩,⟨⟨Int.natCast_nonneg _,le_pow (b := 32) (Nat.and_lt_two_pow _ (tn_lt ok.f))⟩,⟨Int.natCast_nonneg _,le_pow (b := 32) (Nat.and_lt_two_pow _ (tn_lt ok.g))⟩⟩,trivial⟩ ?_
             refine Cfg.setS 17 (congrArg (fun (xq : Int) => (.int .u32 xq : Value)) (show ((((((((rv hs bl t).e : Int)).toNat &&& (((rv hs bl t).f : Int)).toNat : Nat) : Int)).toNat ^^^ ((((((4294967295 - ((rv hs bl t).e : Int)) % 4294967296)).toNat &&& (((rv hs bl t).g : Int)).toNat : Nat) : Int)).toNat : Nat) : Int) = (choi (rv hs bl t).e (rv hs bl t).f (rv hs bl t).g : Int) from choi_eq2 ok.e _ _)) ?_
             refine Cfg.regD rfl kr [2,3,6,7,8,9,14,15,18] [dZ,dZ,(dS (.int .u32 ((rv hs bl t).h : Int))),dZ,dZ,dZ,dZ,dZ,dZ,dZ,(dS (.int .u32 (rg Kc t : Int))),dZ,dZ,dZ,dZ,(dS (.int .u32 (rg (row bl 64) t : Int)))] (Γ' := [(18,[],.int .u32 ((((((((((rv hs bl t).h : Int) + (bigE (rv hs bl t).e : Int)) % 4294967296) + (choi (rv hs bl t).e (rv hs bl t).f (rv hs bl t).g : Int)) % 4294967296) + (rg Kc t : Int)) % 4294967296) + (rg (row bl 64) t : Int)) % 4294967296)),(15,[],.int .i64 (t : Int)),(14,[],.slice (some ⟨v,0,none⟩) 8 8),(9,[],.slice (some ⟨wb,0,none⟩) 64 64),(8,[],.int .i64 (((64 * q) : Nat) : Int)),(7,[],.slice (some ⟨cb,0,none⟩) 64 64),(6,[],.slice (some ⟨hb,0,none⟩) 8 8),(3,[],.slice (some ⟨mo.b,0,none⟩) (s.size + 1 + ((119 - s.size % 64) % 64) + 8) mo.cap),(2,[],pT rs)]) (nd := (fun S => [(iL (7 : Int) 8),(cE S v 7 (.int .u32 ((rv hs bl t).h : Int))),(iL (t : Int) 64),(cE S cb t (.int .u32 (rg Kc t : Int))),(iL (t : Int) 64),(cE S wb t (.int .u32 (rg (row bl 64) t : Int)))])) kr kr (fun _ => kr) ⟨om,(oC 0 rfl rfl),om,(fun w1 h => h.ocell 2 rfl (kget om)),om,(oC 1 rfl (wv_get (row_len _ 64) om)),trivial⟩ ?_
             refine Cfg.setS 18 (congrArg (fun (xq : Int) => (.int .u32 xq : Value)) (show ((((((((((rv hs bl t).h : Int) + (bigE (rv hs bl t).e : Int)) % 4294967296) + (choi (rv hs bl t).e (rv hs bl t).f (rv hs bl t).g : Int)) % 4294967296) + (rg Kc t : Int)) % 4294967296) + (rg (row bl 64) t : Int)) % 4294967296) = (frst (rg Kc t) (rg (row bl 64) t) (rv hs bl t) : Int) from frst_eq _ _ _)) ?_
             refine Cfg.begA rfl kr ([(v,.cells (wv (w8l (rv hs bl t))) 69 (0,0)),(wb,.cells (wv (row bl 64)) 69 (0,0)),(cb,.cells (wv Kc) 69 (0,0)),(hb,.cells (wv hs) 69 (0,0)),(rs,.cells (bv (List.replicate 32 0)) 36 (0,0))] ++ (MO.o 5 ((bv M).toList) mo ++ [])) ?_
             refine Ap [0,1,2,4,5,6,9,10,11] [dZ,dZ,(dS (.int .u32 ((rv hs bl t).a : Int))),dZ,dZ,(dS (.int .u32 ((rv hs bl t).a : Int))),dZ,dZ,(dS (.int .u32 ((rv hs bl t).a : Int)))] (some [2,3,6,7,8,9,14,15,18,250,254,259]) (bF 3703 15) slr 6 (fun S => [(iL (0 : Int) 8),(cE S v 0 (.int .u32 ((rv hs bl t).a : Int))),(iL (0 : Int) 8),(cE S v 0 (.int .u32 ((rv hs bl t).a : Int))),(iL (0 : Int) 8),(cE S v 0 (.int .u32 ((rv hs bl t).a : Int)))]) ⟨om,(oC 0 rfl rfl),om,(oC 0 rfl rfl),om,(oC 0 rfl rfl),trivial⟩ ?_
             refine Ae 3 rfl 5  (Eff.callA (vs := [.int .u32 ((rv hs bl t).a : Int),.int .i64 2]) (.int .u32 (rotl ((rv hs bl t).a) 1073741824 4 : Int)) rfl Tryz.func29 rfl rfl kr (fun w1 _ => rRotr2 _ w1 ok.a)) (fun _ _ => slr) ?_
             rintro ⟨⟩ -
             refine Ae 7 rfl 4  (Eff.callA (vs := [.int .u32 ((rv hs bl t).a : Int),.int .i64 13]) (.int .u32 (rotl ((rv hs bl t).a) 524288 8192 : Int)) rfl Tryz.func29 rfl rfl kr (fun w1 _ => rRotr13 _ w1 ok.a)) (fun _ _ => slr) ?_
             rintro ⟨⟩ -
             refine Ap [8] [] (some [2,3,6,7,8,9,14,15,18,256,259]) (tF 12 3) slr 3 (fun _ => [((0 ≤ (rotl ((rv hs bl t).a) 1073741824 4 : Int) ∧ (rotl ((rv hs bl t).a) 1073741824 4 : Int) ≤ 4294967295) ∧ 0 ≤ (rotl ((rv hs bl t).a) 524288 8192 : Int) ∧ (rotl ((rv hs bl t).a) 524288 8192 : Int) ≤ 4294967295)]) ⟨⟨⟨Int.natCast_nonneg _,le_pow (b := 32) (rotl_lt ok.a)⟩,⟨Int.natCast_nonneg _,le_pow (b := 32) (rotl_lt ok.a)⟩⟩,trivial⟩ ?_
             refine Ae 12 rfl 2  (Eff.callA (vs := [.int .u32 ((rv hs bl t).a : Int),.int .i64 22]) (.int .u32 (rotl ((rv hs bl t).a) 1024 4194304 : Int)) rfl Tryz.func29 rfl rfl kr (fun w1 _ => rRotr22 _ w1 ok.a)) (fun _ _ => slr) ?_
             rintro ⟨⟩ -
             refine Ap [13,14] [] (some [2,3,6,7,8,9,14,15,18,19]) (tF 15 0) slr 0 (fun _ => [((0 ≤ ((((rotl ((rv hs bl t).a) 1073741824 4 : Int)).toNat ^^^ ((rotl ((rv hs bl t).a) 524288 8192 : Int)).toNat : Nat) : Int) ∧ ((((rotl ((rv hs bl t).a) 1073741824 4 : Int)).toNat ^^^ ((rotl ((rv hs bl t).a) 524288 8192 : Int)).toNat : Nat) : Int) ≤ 4294967295) ∧ 0 ≤ (rotl ((rv hs bl t).a) 1024 4194304 : Int) ∧ (rotl ((rv hs bl t).a) 1024 4194304 : Int) ≤ 4294967295)]) ⟨⟨⟨Int.natCast_nonneg _,le_pow (b := 32) (Nat.xor_lt_two_pow (tn_lt (rotl_lt ok.a)) (tn_lt (rotl_lt ok.a)))⟩,⟨Int.natCast_nonneg _,le_pow (b := 32) (rotl_lt ok.a)⟩⟩,trivial⟩ ?_
             refine CfgA.done kr ?_
             refine Cfg.setS 19 (congrArg (fun (xq : Int) => (.int .u32 xq : Value)) (show (((((((rotl ((rv hs bl t).a) 1073741824 4 : Int)).toNat ^^^ ((rotl ((rv hs bl t).a) 524288 8192 : Int)).toNat : Nat) : Int)).toNat ^^^ ((rotl ((rv hs bl t).a) 1024 4194304 : Int)).toNat : Nat) : Int) = (bigA (rv hs bl t).a : Int) from bigA_eq _)) ?_
             refine Cfg.regD rfl kr [2,3,6,7,8,9,14,15,18,19,20] [dZ,dZ,(dS (.int .u32 ((rv hs bl t).a : Int))),dZ,dZ,(dS (.int .u32 ((rv hs bl t).b : Int))),dZ,dZ,dZ,(dS (.int .u32 ((rv hs bl t).a : Int))),dZ,dZ,(dS (.int .u32 ((rv hs bl t).c : Int))),dZ,dZ,dZ,dZ,(dS (.int .u32 ((rv hs bl t).b : Int))),dZ,dZ,(dS (.int .u32 ((rv hs bl t).c : Int)))] (Γ' := [(20,[],.int .u32 (((((((((((rv hs bl t).a : Int)).toNat &&& (((rv hs bl t).b : Int)).toNat : Nat) : Int)).toNat ^^^ ((((((rv hs bl t).a : Int)).toNat &&& (((rv hs bl t).c : Int)).toNat : Nat) : Int)).toNat : Nat) : Int)).toNat ^^^ ((((((rv hs bl t).b : Int)).toNat &&& (((rv hs bl t).c : Int)).toNat : Nat) : Int)).toNat : Nat) : Int)),(19,[],.int .u32 (bigA (rv hs bl t).a : Int)),(18,[],.int .u32 (frst (rg Kc t) (rg (row bl 64) t) (rv hs bl t) : Int)),(15,[],.int .i64 (t : Int)),(14,[],.slice (some ⟨v,0,none⟩) 8 8),(9,[],.slice (some ⟨wb,0,none⟩) 64 64),(8,[],.int .i64 (((64 * q) : Nat) : Int)),(7,[],.slice (some ⟨cb,0,none⟩) 64 64),(6,[],.slice (some ⟨hb,0,none⟩) 8 8),(3,[],.slice (some ⟨mo.b,0,none⟩) (s.size + 1 + ((119 - s.size % 64) % 64) + 8) mo.cap),(2,[],pT rs)]) (nd := (fun S => [(iL (0 : Int) 8),(cE S v 0 (.int .u32 ((rv hs bl t).a : Int))),(iL (1 : Int) 8),(cE S v 1 (.int .u32 ((rv hs bl t).b : Int))),((0 ≤ ((rv hs bl t).a : Int) ∧ ((rv hs bl t).a : Int) ≤ 4294967295) ∧ 0 ≤ ((rv hs bl t).b : Int) ∧ ((rv hs bl t).b : Int) ≤ 4294967295),(iL (0 : Int) 8),(cE S v 0 (.int .u32 ((rv hs bl t).a : Int))),(iL (2 : Int) 8),(cE S v 2 (.int .u32 ((rv hs bl t).c : Int))),((0 ≤ ((rv hs bl t).a : Int) ∧ ((rv hs bl t).a : Int) ≤ 4294967295) ∧ 0 ≤ ((rv hs bl t).c : Int) ∧ ((rv hs bl t).c : Int) ≤ 4294967295),((0 ≤ (((((rv hs bl t).a : Int)).toNat &&& (((rv hs bl t).b : Int)).toNat : Nat) : Int) ∧ (((((rv hs bl t).a : Int)).toNat &&& (((rv hs bl t).b : Int)).toNat : Nat) : Int) ≤ 4294967295) ∧ 0 ≤ (((((rv hs bl t).a : Int)).toNat &&& (((rv hs bl t).c : Int)).toNat : Nat) : Int) ∧ (((((rv hs bl t).a : Int)).toNat &&& (((rv hs bl t).c : Int)).toNat : Nat) : Int) ≤ 4294967295),(iL (1 : Int) 8),(cE S v 1 (.int .u32 ((rv hs bl t).b : Int))),(iL (2 : Int) 8),(cE S v 2 (.int .u32 ((rv hs bl t).c : Int))),((0 ≤ ((rv hs bl t).b : Int) ∧ ((rv hs bl t).b : Int) ≤ 4294967295) ∧ 0 ≤ ((rv hs bl t).c : Int) ∧ ((rv hs bl t).c : Int) ≤ 4294967295),((0 ≤ ((((((((rv hs bl t).a : Int)).toNat &&& (((rv hs bl t).b : Int)).toNat : Nat) : Int)).toNat ^^^ ((((((rv hs bl t).a : Int)).toNat &&& (((rv hs bl t).c : Int)).toNat : Nat) : Int)).toNat : Nat) : Int) ∧ ((((((((rv hs bl t).a : Int)).toNat &&& (((rv hs bl t).b : Int)).toNat : Nat) : Int)).toNat ^^^ ((((((rv hs bl t).a : Int)).toNat &&& (((rv hs bl t).c : Int)).toNat : Nat) : Int)).toNat : Nat) : Int) ≤ 4294967295) ∧ 0 ≤ (((((rv hs bl t).b : Int)).toNat &&& (((rv hs bl t).c : Int)).toNat : Nat) : Int) ∧ (((((rv hs bl t).b : Int)).toNat &&& (((rv hs bl t).c : Int)).toNat : Nat) : Int) ≤ 4294967295)])) kr kr (fun _ => kr) ⟨om,(oC 0 rfl rfl),om,(oC 0 rfl rfl),⟨⟨Int.natCast_nonneg _,le_pow (b := 32) ok.a⟩,⟨Int.natCast_nonneg _,le_pow (b := 32) ok.b⟩⟩,om,(oC 0 rfl rfl),om,(oC 0 rfl rfl),⟨⟨Int.natCast_nonneg _,le_pow (b := 32) ok.a⟩,⟨Int.natCast_nonneg _,le_pow (b := 32) ok.c⟩⟩,⟨⟨Int.natCast_nonneg _,le_pow (b := 32) (Nat.and_lt_two_pow _ (tn_lt ok.b))⟩,⟨Int.natCast_nonneg _,le_pow (b := 32) (Nat.and_lt_two_pow _ (tn_lt ok.c))⟩⟩,om,(oC 0 rfl rfl),om,(oC 0 rfl rfl),⟨⟨Int.natCast_nonneg _,le_pow (b := 32) ok.b⟩,⟨Int.natCast_nonneg _,le_pow (b := 32) ok.c⟩⟩,⟨⟨Int.natCast_nonneg _,le_pow (b := 32) (Nat.xor_lt_two_pow (tn_lt (Nat.and_lt_two_pow _ (tn_lt ok.b))) (tn_lt (Nat.and_lt_two_pow _ (tn_lt ok.c))))⟩,⟨Int.natCast_nonneg _,le_pow (b := 32) (Nat.and_lt_two_pow _ (tn_lt ok.c))⟩⟩,trivial⟩ ?_
             refine Cfg.setS 20 (congrArg (fun (xq : Int) => (.int .u32 xq : Value)) (show (((((((((((rv hs bl t).a : Int)).toNat &&& (((rv hs bl t).b : Int)).toNat : Nat) : Int)).toNat ^^^ ((((((rv hs bl t).a : Int)).toNat &&& (((rv hs bl t).c : Int)).toNat : Nat) : Int)).toNat : Nat) : Int)).toNat ^^^ ((((((rv hs bl t).b : Int)).toNat &&& (((rv hs bl t).c : Int)).toNat : Nat) : Int)).toNat : Nat) : Int) = (most (rv hs bl t).a (rv hs bl t).b (rv hs bl t).c : Int) from most_eq _ _ _)) ?_
             refine Rg [2,3,6,7,8,9,14,15,18,21] [] n0 trivial ?_
             refine Cfg.setS 21 (congrArg (fun (xq : Int) => (.int .u32 xq : Value)) (show (((bigA (rv hs bl t).a : Int) + (most (rv hs bl t).a (rv hs bl t).b (rv hs bl t).c : Int)) % 4294967296) = (scnd (rv hs bl t) : Int) from scnd_eq _)) ?_
             refine Cfg.begA rfl kr ([(v,.cells (wv (w8l (rv hs bl t))) 69 (0,0)),(wb,.cells (wv (row bl 64)) 69 (0,0)),(cb,.cells (wv Kc) 69 (0,0)),(hb,.cells (wv hs) 69 (0,0)),(rs,.cells (bv (List.replicate 32 0)) 36 (0,0))] ++ (MO.o 5 ((bv M).toList) mo ++ [])) ?_
             refine Ap (List.range 26) [dZ,dZ,dZ,dZ,dZ,(dS (.int .u32 ((rv hs bl t).a : Int))),dZ,dZ,(dS (.int .u32 ((rv hs bl t).b : Int))),dZ,dZ,(dS (.int .u32 ((rv hs bl t).c : Int))),dZ,dZ,(dS (.int .u32 ((rv hs bl t).d : Int))),dZ,dZ,dZ,dZ,(dS (.int .u32 ((rv hs bl t).e : Int))),dZ,dZ,(dS (.int .u32 ((rv hs bl t).f : Int))),dZ,dZ,(dS (.int .u32 ((rv hs bl t).g : Int)))] (some [2,3,6,7,8,9,14,15,290,293,296,299,304,307,310,313]) (tF 26 2) slr 2 (fun S => [(iL (0 : Int) 8),(cE S v 0 (.int .u32 ((rv hs bl t).a : Int))),(iL (1 : Int) 8),(cE S v 1 (.int .u32 ((rv hs bl t).b : Int))),(iL (2 : Int) 8),(cE S v 2 (.int .u32 ((rv hs bl t).c : Int))),(iL (3 : Int) 8),(cE S v 3 (.int .u32 ((rv hs bl t).d : Int))),(iL (4 : Int) 8),(cE S v 4 (.int .u32 ((rv hs bl t).e : Int))),(iL (5 : Int) 8),(cE S v 5 (.int .u32 ((rv hs bl t).f : Int))),(iL (6 : Int) 8),(cE S v 6 (.int .u32 ((rv hs bl t).g : Int)))]) ⟨om,(oC 0 rfl rfl),om,(oC 0 rfl rfl),om,(oC 0 rfl rfl),om,(oC 0 rfl rfl),om,(oC 0 rfl rfl),om,(oC 0 rfl rfl),om,(oC 0 rfl rfl),trivial⟩ ?_
             refine Ae 26 rfl 1  (Eff.buildSlice (e := 69) (cells := #[.int .u32 (((frst (rg Kc t) (rg (row bl 64) t) (rv hs bl t) : Int) + (scnd (rv hs bl t) : Int)) % 4294967296),.int .u32 ((rv hs bl t).a : Int),.int .u32 ((rv hs bl t).b : Int),.int .u32 ((rv hs bl t).c : Int),.int .u32 ((((rv hs bl t).d : Int) + (frst (rg Kc t) (rg (row bl 64) t) (rv hs bl t) : Int)) % 4294967296),.int .u32 ((rv hs bl t).e : Int),.int .u32 ((rv hs bl t).f : Int),.int .u32 ((rv hs bl t).g : Int)]) (parts := #[(0,.int .u32 (((frst (rg Kc t) (rg (row bl 64) t) (rv hs bl t) : Int) + (scnd (rv hs bl t) : Int)) % 4294967296)),(1,.int .u32 ((rv hs bl t).a : Int)),(2,.int .u32 ((rv hs bl t).b : Int)),(3,.int .u32 ((rv hs bl t).c : Int)),(4,.int .u32 ((((rv hs bl t).d : Int) + (frst (rg Kc t) (rg (row bl 64) t) (rv hs bl t) : Int)) % 4294967296)),(5,.int .u32 ((rv hs bl t).e : Int)),(6,.int .u32 ((rv hs bl t).f : Int)),(7,.int .u32 ((rv hs bl t).g : Int))]) rfl kr (fun _ => kr)) (fun _ _ => (.cons _ slr)) ?_
             rintro vz ⟨hvz,nvz⟩
             refine Ap [27] [] (some [2,3,6,7,8,9,14,15]) (tF 28 0) (.cons _ slr) 0 n0 trivial ?_
             refine CfgA.done kr ?_
             refine Rg [2,3,6,7,8,9,14,15] [] (fun _ => [(i6 ((t : Int) + 1))]) ⟨om,trivial⟩ ?_
             refine Cfg.setO (congrArg (fun (xq : Array Value) => (([(vz,.cells xq 69 (0,0)),(v,.cells (wv (w8l (rv hs bl t))) 69 (0,0)),(wb,.cells (wv (row bl 64)) 69 (0,0)),(cb,.cells (wv Kc) 69 (0,0)),(hb,.cells (wv hs) 69 (0,0)),(rs,.cells (bv (List.replicate 32 0)) 36 (0,0))] ++ (MO.o 5 ((bv M).toList) mo ++ [])) : LO)) (show _ = (wv (w8l (rv hs bl (t + 1)))) from vrow _ _ t)) ?_
             refine Cfg.again rfl (t + 1,vz) (by show t + 1 ≤ 64; omega) (by show 64 - (t + 1) < 64 - t; omega) (Conv.mk kr) (.cons_cons _ (.cons _ slr))
            ·have c6 := (dF c6r)
             obtain rfl : t = 64 := by omega
             refine Conv.cfg (Γ' := [(14,[],.slice (some ⟨v,0,none⟩) 8 8),(9,[],.slice (some ⟨wb,0,none⟩) 64 64),(8,[],.int .i64 (((64 * q) : Nat) : Int)),(7,[],.slice (some ⟨cb,0,none⟩) 64 64),(6,[],.slice (some ⟨hb,0,none⟩) 8 8),(3,[],.slice (some ⟨mo.b,0,none⟩) (s.size + 1 + ((119 - s.size % 64) % 64) + 8) mo.cap),(2,[],pT rs)]) (Conv.mk kr) ?_
             refine Rg [2,3,6,7,8,14,22] [] n0 trivial ?_
             refine Cfg.setO (congrArg (fun (xq : Array Value) => (([(v,.cells (wv (w8l (rv hs bl 64))) 69 (0,0)),(wb,.cells (wv (row bl 64)) 69 (0,0)),(cb,.cells (wv Kc) 69 (0,0)),(hb,.cells xq 69 (0,0)),(rs,.cells (bv (List.replicate 32 0)) 36 (0,0))] ++ (MO.o 5 ((bv M).toList) mo ++ [])) : LO)) (show _ = (wv (sm hs (w8l (rv hs bl 64)) 0)) from rfl)) ?_
             refine Cfg.loop rfl (ι := Nat) (fun (k : Nat) => [(22,[],.int .i64 (k : Int)),(14,[],.slice (some ⟨v,0,none⟩) 8 8),(8,[],.int .i64 (((64 * q) : Nat) : Int)),(7,[],.slice (some ⟨cb,0,none⟩) 64 64),(6,[],.slice (some ⟨hb,0,none⟩) 8 8),(3,[],.slice (some ⟨mo.b,0,none⟩) (s.size + 1 + ((119 - s.size % 64) % 64) + 8) mo.cap),(2,[],pT rs)]) (fun (k : Nat) => ([(v,.cells (wv (w8l (rv hs bl 64))) 69 (0,0)),(wb,.cells (wv (row bl 64)) 69 (0,0)),(cb,.cells (wv Kc) 69 (0,0)),(hb,.cells (wv (sm hs (w8l (rv hs bl 64)) k)) 69 (0,0)),(rs,.cells (bv (List.replicate 32 0)) 36 (0,0))] ++ (MO.o 5 ((bv M).toList) mo ++ []))) (fun (k : Nat) => (k ≤ 8)) (fun (k : Nat) => 8 - k) 0 ?_ (Conv.mk kr) slr ?_
             ·exact Nat.zero_le _
             ·rintro k hk
              refine Rg [2,3,6,7,8,14,22,316] [] n0 trivial ?_
              refine Cfg.cond rfl (b := (decide ((k : Int) < (8 : Int)))) kr (fun c7r => ?_) (fun c7r => ?_)
              ·have c7 := (dT c7r)
               refine Cfg.begA rfl kr ([(v,.cells (wv (w8l (rv hs bl 64))) 69 (0,0)),(wb,.cells (wv (row bl 64)) 69 (0,0)),(cb,.cells (wv Kc) 69 (0,0)),(rs,.cells (bv (List.replicate 32 0)) 36 (0,0))] ++ (MO.o 5 ((bv M).toList) mo ++ [])) ?_
               refine Ap [0,1,2,3,4,6,7,8,9] [dZ,dZ,dZ,dZ,dZ,dZ,dZ,dZ,(dS (.int .u32 (rg (w8l (rv hs bl 64)) k : Int)))] (some [2,3,6,7,8,14,22,319,320,323,328]) (bF 991 13) (.cons_cons _ (.cons_cons _ (.cons_cons _ (.cons _ slr)))) 4 (fun S => [(iL (k : Int) 8),(iL (k : Int) 8),(cE S v k (.int .u32 (rg (w8l (rv hs bl 64)) k : Int)))]) ⟨om,om,(oC 0 rfl (wv_get (w8l_len _) om)),trivial⟩ ?_
               refine Ae 5 rfl 3  (Eff.quiet (raw := false) (orc := some (.int .u32 (rg (sm hs (w8l (rv hs bl 64)) k) k : Int))) (v := .int .u32 (rg (sm hs (w8l (rv hs bl 64)) k) k : Int)) (nd := (fun S => [(cE S hb k (.int .u32 (rg (sm hs (w8l (rv hs bl 64)) k) k : Int)))])) (fun _ => kr) ⟨(oC 3 rfl (wv_get (sm_len _ hh k) om)),trivial⟩ kr) (fun _ _ => (.cons_cons _ (.cons_cons _ (.cons_cons _ (.cons _ slr))))) ?_
               rintro ⟨⟩ -
               refine Ap [10,11] [] (some [2,3,6,7,8,14,22,329,330]) (tF 12 1) (.cons_cons _ (.cons_cons _ (.cons_cons _ (.cons _ slr)))) 1 (fun _ => [(iL (k : Int) 8)]) ⟨om,trivial⟩ ?_
               refine Ae 12 rfl 0  (Eff.store1 (b := hb) (off := k) (v := .int .u32 (((rg (sm hs (w8l (rv hs bl 64)) k) k : Int) + (rg (w8l (rv hs bl 64)) k : Int)) % 4294967296)) rfl kr kr rfl kr 3 (cs := (wv (sm hs (w8l (rv hs bl 64)) k))) (e := 69) kr (by rw [wv_size,sm_len _ hh k]; omega)) (fun _ _ => (.cons_cons _ (.cons_cons _ (.cons_cons _ (.cons _ slr))))) ?_
               rintro ⟨⟩ -
               refine CfgA.done kr ?_
               refine Cg (Γ' := [(22,[],.int .i64 (k : Int)),(14,[],.slice (some ⟨v,0,none⟩) 8 8),(8,[],.int .i64 (((64 * q) : Nat) : Int)),(7,[],.slice (some ⟨cb,0,none⟩) 64 64),(6,[],.slice (some ⟨hb,0,none⟩) 8 8),(3,[],.slice (some ⟨mo.b,0,none⟩) (s.size + 1 + ((119 - s.size % 64) % 64) + 8) mo.cap),(2,[],pT rs)]) ?_
               refine Rg [2,3,6,7,8,14,22] [] (fun _ => [(i6 ((k : Int) + 1))]) ⟨om,trivial⟩ ?_
               refine Cfg.setO (congrArg (fun (xq : Array Value) => (([(v,.cells (wv (w8l (rv hs bl 64))) 69 (0,0)),(wb,.cells (wv (row bl 64)) 69 (0,0)),(cb,.cells (wv Kc) 69 (0,0)),(hb,.cells xq 69 (0,0)),(rs,.cells (bv (List.replicate 32 0)) 36 (0,0))] ++ (MO.o 5 ((bv M).toList) mo ++ [])) : LO)) (show _ = (wv (sm hs (w8l (rv hs bl 64)) (k + 1))) from wsum8 _ _ om hh)) ?_
               refine Cfg.again rfl (k + 1) (by show k + 1 ≤ 8; omega) (by show 8 - (k + 1) < 8 - k; omega) (Conv.mk kr) slr
              ·have c7 := (dF c7r)
               obtain rfl : k = 8 := by omega
               refine Conv.cfg (Γ' := [(14,[],.slice (some ⟨v,0,none⟩) 8 8),(8,[],.int .i64 (((64 * q) : Nat) : Int)),(7,[],.slice (some ⟨cb,0,none⟩) 64 64),(6,[],.slice (some ⟨hb,0,none⟩) 8 8),(3,[],.slice (some ⟨mo.b,0,none⟩) (s.size + 1 + ((119 - s.size % 64) % 64) + 8) mo.cap),(2,[],pT rs)]) (Conv.mk kr) ?_
               refine Rg [2,3,6,7,8] [] (fun _ => [(i6 ((((64 * q) : Nat) : Int) + 64))]) ⟨om,trivial⟩ ?_
               have hmx : sm hs (w8l (rv hs bl 64)) 8 = mixes (q + 1) M H8 := by rw [hhs,hbl]; exact (mixes_succ q _ _).symm
               refine Cfg.setO (congrArg (fun (xq : Array Value) => (([(v,.cells (wv (w8l (rv hs bl 64))) 69 (0,0)),(wb,.cells (wv (row bl 64)) 69 (0,0)),(cb,.cells (wv Kc) 69 (0,0)),(hb,.cells xq 69 (0,0)),(rs,.cells (bv (List.replicate 32 0)) 36 (0,0))] ++ (MO.o 5 ((bv M).toList) mo ++ [])) : LO)) (show _ = (wv (mixes (q + 1) M H8)) from by rw [hmx])) ?_
               refine Cfg.again rfl (q + 1) (by show q + 1 ≤ M.length / 64; omega) (by show M.length / 64 - (q + 1) < M.length / 64 - q; omega) (Conv.mk kr) (.cons _ (.cons _ slr))
      ·have c3 := (dF c3r)
       obtain rfl : q = M.length / 64 := by omega
       subst hhs
       refine Conv.cfg (Γ' := [(7,[],.slice (some ⟨cb,0,none⟩) 64 64),(6,[],.slice (some ⟨hb,0,none⟩) 8 8),(3,[],.slice (some ⟨mo.b,0,none⟩) (s.size + 1 + ((119 - s.size % 64) % 64) + 8) mo.cap),(2,[],pT rs)]) (Conv.mk kr) ?_
       refine Cfg.begL rfl ?_
       refine Le (Eff.alloc (z := (.agg (bv (List.replicate 32 0)))) rfl kr) ?_
       rintro d ⟨hd,nd⟩
       refine CfgL.done rfl ?_
       refine Cg (Γ' := [(23,[],pT d),(6,[],.slice (some ⟨hb,0,none⟩) 8 8),(2,[],pT rs)]) ?_
       refine Rg [2,6,23,24] [] n0 trivial ?_
       refine Cfg.loop rfl (ι := Nat) (fun (k2 : Nat) => [(24,[],.int .i64 (k2 : Int)),(23,[],pT d),(6,[],.slice (some ⟨hb,0,none⟩) 8 8),(2,[],pT rs)]) (fun (k2 : Nat) => ([(d,.cells (bv (dgr (mixes (M.length / 64) M H8) k2)) 36 (0,0)),(cb,.cells (wv Kc) 69 (0,0)),(hb,.cells (wv (mixes (M.length / 64) M H8)) 69 (0,0)),(rs,.cells (bv (List.replicate 32 0)) 36 (0,0))] ++ (MO.o 5 ((bv M).toList) mo ++ []))) (fun (k2 : Nat) => (k2 ≤ 8)) (fun (k2 : Nat) => 8 - k2) 0 ?_ (Conv.mk kr) slr ?_
       ·exact Nat.zero_le _
       ·rintro k2 hk2
        refine Rg [2,6,23,24,332] [] n0 trivial ?_
        refine Cfg.cond rfl (b := (decide ((k2 : Int) < (8 : Int)))) kr (fun c8r => ?_) (fun c8r => ?_)
        ·have c8 := (dT c8r)
         refine Cfg.begL rfl ?_
         refine Lp 9 [dZ,dZ,dZ,dZ,dZ,(dS (.int .u32 ((rg (mixes (M.length / 64) M H8) k2 : Nat) : Int)))] (some [2,6,23,24,342,343]) (fun S => [(i6 (4 * (k2 : Int))),(iL (k2 : Int) 8),(cE S hb k2 (.int .u32 ((rg (mixes (M.length / 64) M H8) k2 : Nat) : Int))),(0 ≤ (24 : Int) ∧ 24 ≤ 32),(iL (4 * (k2 : Int)) 32)]) ⟨om,om,(oC 2 rfl (wv_get (n := 8) (i := k2) (mixes_len (M.length / 64) M (hs := H8) rfl) om)),om,om,trivial⟩ ?_
         refine Le (Eff.store1 (b := d) (off := (4 * k2)) (v := .int .u8 ((((rg (mixes (M.length / 64) M H8) k2 : Nat) : Int) / 16777216) % 256)) rfl kr kr rfl kr 0 (cs := (bv (dgr (mixes (M.length / 64) M H8) k2))) (e := 36) kr (by first | (rw [dsz2 _ hk2]; omega) | (simp only [Array.size_setIfInBounds,dsz2 _ hk2]; omega))) ?_
         rintro ⟨⟩ -
         refine CfgL.done rfl ?_
         refine Cg (Γ' := [(24,[],.int .i64 (k2 : Int)),(23,[],pT d),(6,[],.slice (some ⟨hb,0,none⟩) 8 8),(2,[],pT rs)]) ?_
         refine Cfg.begL rfl ?_
         refine Lp 10 [dZ,dZ,dZ,dZ,dZ,dZ,(dS (.int .u32 ((rg (mixes (M.length / 64) M H8) k2 : Nat) : Int)))] (some [2,6,23,24,352,353]) (fun S => [(i6 (4 * (k2 : Int))),(i6 ((4 * (k2 : Int)) + 1)),(iL (k2 : Int) 8),(cE S hb k2 (.int .u32 ((rg (mixes (M.length / 64) M H8) k2 : Nat) : Int))),(0 ≤ (16 : Int) ∧ 16 ≤ 32),(iL ((4 * (k2 : Int)) + 1) 32)]) ⟨om,om,om,(oC 2 rfl (wv_get (n := 8) (i := k2) (mixes_len (M.length / 64) M (hs := H8) rfl) om)),om,om,trivial⟩ ?_
         refine Le (Eff.store1 (b := d) (off := ((4 * k2) + 1)) (v := .int .u8 ((((rg (mixes (M.length / 64) M H8) k2 : Nat) : Int) / 65536) % 256)) rfl kr kr rfl kr 0 (cs := ((bv (dgr (mixes (M.length / 64) M H8) k2)).setIfInBounds (4 * k2) (.int .u8 ((((rg (mixes (M.length / 64) M H8) k2 : Nat) : Int) / 16777216) % 256)))) (e := 36) kr (by first | (rw [dsz2 _ hk2]; omega) | (simp only [Array.size_setIfInBounds,dsz2 _ hk2]; omega))) ?_
         rintro ⟨⟩ -
         refine CfgL.done rfl ?_
         refine Cg (Γ' := [(24,[],.int .i64 (k2 : Int)),(23,[],pT d),(6,[],.slice (some ⟨hb,0,none⟩) 8 8),(2,[],pT rs)]) ?_
         refine Cfg.begL rfl ?_
         refine Lp 10 [dZ,dZ,dZ,dZ,dZ,dZ,(dS (.int .u32 ((rg (mixes (M.length / 64) M H8) k2 : Nat) : Int)))] (some [2,6,23,24,362,363]) (fun S => [(i6 (4 * (k2 : Int))),(i6 ((4 * (k2 : Int)) + 2)),(iL (k2 : Int) 8),(cE S hb k2 (.int .u32 ((rg (mixes (M.length / 64) M H8) k2 : Nat) : Int))),(0 ≤ (8 : Int) ∧ 8 ≤ 32),(iL ((4 * (k2 : Int)) + 2) 32)]) ⟨om,om,om,(oC 2 rfl (wv_get (n := 8) (i := k2) (mixes_len (M.length / 64) M (hs := H8) rfl) om)),om,om,trivial⟩ ?_
         refine Le (Eff.store1 (b := d) (off := ((4 * k2) + 2)) (v := .int .u8 ((((rg (mixes (M.length / 64) M H8) k2 : Nat) : Int) / 256) % 256)) rfl kr kr rfl kr 0 (cs := (((bv (dgr (mixes (M.length / 64) M H8) k2)).setIfInBounds (4 * k2) (.int .u8 ((((rg (mixes (M.length / 64) M H8) k2 : Nat) : Int) / 16777216) % 256))).setIfInBounds ((4 * k2) + 1) (.int .u8 ((((rg (mixes (M.length / 64) M H8) k2 : Nat) : Int) / 65536) % 256)))) (e := 36) kr (by first | (rw [dsz2 _ hk2]; omega) | (simp only [Array.size_setIfInBounds,dsz2 _ hk2]; omega))) ?_
         rintro ⟨⟩ -
         refine CfgL.done rfl ?_
         refine Cg (Γ' := [(24,[],.int .i64 (k2 : Int)),(23,[],pT d),(6,[],.slice (some ⟨hb,0,none⟩) 8 8),(2,[],pT rs)]) ?_
         refine Cfg.begL rfl ?_
         refine Lp 9 [dZ,dZ,dZ,dZ,dZ,dZ,(dS (.int .u32 ((rg (mixes (M.length / 64) M H8) k2 : Nat) : Int)))] (some [2,6,23,24,371,372]) (fun S => [(i6 (4 * (k2 : Int))),(i6 ((4 * (k2 : Int)) + 3)),(iL (k2 : Int) 8),(cE S hb k2 (.int .u32 ((rg (mixes (M.length / 64) M H8) k2 : Nat) : Int))),(iL ((4 * (k2 : Int)) + 3) 32)]) ⟨om,om,om,(oC 2 rfl (wv_get (n := 8) (i := k2) (mixes_len (M.length / 64) M (hs := H8) rfl) om)),om,trivial⟩ ?_
         refine Le (Eff.store1 (b := d) (off := ((4 * k2) + 3)) (v := .int .u8 (((rg (mixes (M.length / 64) M H8) k2 : Nat) : Int) % 256)) rfl kr kr rfl kr 0 (cs := ((((bv (dgr (mixes (M.length / 64) M H8) k2)).setIfInBounds (4 * k2) (.int .u8 ((((rg (mixes (M.length / 64) M H8) k2 : Nat) : Int) / 16777216) % 256))).setIfInBounds ((4 * k2) + 1) (.int .u8 ((((rg (mixes (M.length / 64) M H8) k2 : Nat) : Int) / 65536) % 256))).setIfInBounds ((4 * k2) + 2) (.int .u8 ((((rg (mixes (M.length / 64) M H8) k2 : Nat) : Int) / 256) % 256)))) (e := 36) kr (by first | (rw [dsz2 _ hk2]; omega) | (simp only [Array.size_setIfInBounds,dsz2 _ hk2]; omega))) ?_
         rintro ⟨⟩ -
         refine CfgL.done rfl ?_
         refine Cg (Γ' := [(24,[],.int .i64 (k2 : Int)),(23,[],pT d),(6,[],.slice (some ⟨hb,0,none⟩) 8 8),(2,[],pT rs)]) ?_
         refine Rg [2,6,23,24] [] (fun _ => [(i6 ((k2 : Int) + 1))]) ⟨om,trivial⟩ ?_
         refine Cfg.setO (congrArg (fun (xq : Array Value) => (([(d,.cells xq 36 (0,0)),(cb,.cells (wv Kc) 69 (0,0)),(hb,.cells (wv (mixes (M.length / 64) M H8)) 69 (0,0)),(rs,.cells (bv (List.replicate 32 0)) 36 (0,0))] ++ (MO.o 5 ((bv M).toList) mo ++ [])) : LO)) (show _ = (bv (dgr (mixes (M.length / 64) M H8) (k2 + 1))) from dgr_step _ om rfl rfl rfl rfl)) ?_
         refine Cfg.again rfl (k2 + 1) (by show k2 + 1 ≤ 8; omega) (by show 8 - (k2 + 1) < 8 - k2; omega) (Conv.mk kr) slr
        ·have c8 := (dF c8r)
         refine Cfg.begL rfl ?_
         refine Lp 1 [(dS (.agg (bv (dgr (mixes (M.length / 64) M H8) k2))))] (some [2,373]) (fun S => [(∀ w1,S w1 → (loadVar 36 ⟨d,0,none⟩).run Tryz.prog w1 = .ok (.agg (bv (dgr (mixes (M.length / 64) M H8) k2))) w1)]) ⟨(fun w1 h => h.oload 0 rfl Tryz.underlying36 rfl (n := 32) kr (dsz2 _ hk2)),trivial⟩ ?_
         refine Le (Eff.storeN (b := rs) (off := 0) (vs := (bv (dgr (mixes (M.length / 64) M H8) k2))) (n := 32) rfl kr kr kr (dsz2 _ hk2) (all_bv _) 3 (cs := (bv (List.replicate 32 0))) (e := 36) kr (by rw [zsz]; omega)) ?_
         rintro ⟨⟩ -
         refine CfgL.setO (congrArg (fun (xq : Array Value) => (([(d,.cells (bv (dgr (mixes (M.length / 64) M H8) k2)) 36 (0,0)),(cb,.cells (wv Kc) 69 (0,0)),(hb,.cells (wv (mixes (M.length / 64) M H8)) 69 (0,0)),(rs,.cells xq 36 (0,0))] ++ (MO.o 5 ((bv M).toList) mo ++ [])) : LO)) (show _ = (bv (dgr (mixes (M.length / 64) M H8) k2)) from spl_all ((dsz2 _ hk2).trans zsz.symm))) ?_
         refine CfgL.done rfl ?_
         refine Cg (Γ' := [(2,[],pT rs)]) ?_
         refine Cfg.ret rfl (rs := [.cell 2 36]) rfl [.agg (bv (dgr (mixes (M.length / 64) M H8) k2))] ⟨⟨_,by kernel_rfl,(fun w1 h => h.oload 3 rfl Tryz.underlying36 rfl (n := 32) kr (dsz2 _ hk2))⟩,trivial⟩ (fun w1 hp => ?_)
         obtain rfl : k2 = 8 := by omega
         have hsd : shaD s.data.toList = dgr (mixes (M.length / 64) M H8) 8 := by
          have hbq : s.data.toList.length = s.size := ba_len s
          have hlm : M.length = s.data.toList.length + (tailN s.data.toList.length).length := by rw [hM,List.length_append]; unfold un8; rw [List.length_map,hbq]
          have := shaD_mixes s.data.toList (k := M.length / 64) om
          rw [hbq,← hM] at this
          exact this
         rw [hsd]
         exact ⟨rfl,hp.ext⟩
end Go.Proofs.YtbeegepcdglcaaaGreatDoor
namespace Go.Proofs.YtbeegepcdglcaaaGreatDoor
open K
set_option linter.unusedVariables false
def enr (e : En) : List Value := dgc e.id ++ ([.string e.t,.int .i64 (e.p : Int)] ++ dgc e.b)
theorem enr_len {e : En} (h : EnL e) : (enr e).length = 66 := by
 unfold enr
 rw [List.length_append,List.length_append,dgc_len h.id,dgc_len h.b]; rfl
theorem enr_id {e : En} {j : Nat} {v : Value} (h : (dgc e.id)[j]? = some v) : (enr e)[0 + j]? = some v := by rw [Nat.zero_add]; exact app_l h
theorem enr_t {e : En} (h : EnL e) : (enr e)[32]? = some (.string e.t) := app_r (n := 32) (j := 0) (dgc_len h.id) rfl
theorem enr_p {e : En} (h : EnL e) : (enr e)[33]? = some (.int .i64 (e.p : Int)) := app_r (n := 32) (j := 1) (dgc_len h.id) rfl
theorem all_enr (e : En) : ∀ v ∈ enr e,K.one v = true := by
 intro v h
 unfold enr at h
 rcases List.mem_append.1 h with h | h
 ·exact all_dgc _ v h
 ·rcases List.mem_append.1 h with h | h
  ·simp only [List.mem_cons,List.not_mem_nil,or_false] at h
   rcases h with rfl | rfl <;> rfl
  ·exact all_dgc _ v h
theorem enrl_len : ∀ {l : List En},(∀ e ∈ l,EnL e) → (l.flatMap enr).length = l.length * 66
 | [],_ => rfl
 | x :: l,h => by rw [List.flatMap_cons,List.length_append,enrl_len (fun e he => h e (List.mem_cons_of_mem _ he)),enr_len (h x mH),List.length_cons]; omega
theorem er_cell {l : List En} (hl : ∀ e ∈ l,EnL e) {cs : Array Value} (hcs : ∀ j,j < (l.flatMap enr).length → cs[0 + j]? = some ((l.flatMap enr).getD j undef)) {i : Nat} (hi : i < l.length) {j : Nat} {v : Value} (hv : (enr (l.getD i ez))[j]? = some v) : cs[i * 66 + j]? = some v := by
 have h := fl_cell (f := enr) (sz := 66) (l := l) ez (fun x hx => enr_len (hl x hx)) (off := 0) (cs := cs) (fun j hj => hcs j (by rw [enrl_len hl]; exact hj)) hi hv
 rwa [Nat.zero_add] at h
set_option maxRecDepth 100000 in
theorem build_r {d : List UInt8} (hd : d.length = 32) (s : ByteArray) (w : World) : (Instr.build 49 #[(0,.agg (bv d)),(1,.string s)]).run Tryz.prog w = .ok (.agg (enr ⟨d,s,dzz,ByteArray.empty,0⟩).toArray) w := by
 obtain ⟨x0,x1,x2,x3,x4,x5,x6,x7,x8,x9,x10,x11,x12,x13,x14,x15,x16,x17,x18,x19,x20,x21,x22,x23,x24,x25,x26,x27,x28,x29,x30,x31,rfl⟩ := list32e hd
 kernel_rfl
theorem zero_er : (enr ez).toArray.size = 66 := by rw [List.size_toArray,enr_len ez_l]
theorem hex_val {a b : List UInt8} (ha : a.length = 32) (hb : b.length = 32) : Op.bytesLess (hexS a).toList (hexS b).toList = decide (I.val a < I.val b) := by
 rw [hexS_less (ha.trans hb.symm),← cmpL_less ha hb,decide_eq_decide,cmpL_val (ha.trans hb.symm)]
 by_cases h1 : I.val a < I.val b
 ·simp [h1]
 ·by_cases h2 : I.val a = I.val b <;> simp [h1,h2]
def stepI (x : En) (s : List En × Bool) (y : En) : List En × Bool :=
 if (s.2 || (y.id == x.id)) = false ∧ I.val x.id < I.val y.id then (s.1 ++ [x] ++ [y],true) else (s.1 ++ [y],s.2 || (y.id == x.id))
def stF (x : En) (l : List En) (k : Nat) : List En × Bool := (l.take k).foldl (stepI x) ([],false)
theorem stF_succ {x : En} {l : List En} {k : Nat} (h : k < l.length) : stF x l (k + 1) = stepI x (stF x l k) (l.getD k ez) := by
 unfold stF
 rw [List.take_succ_eq_append_getElem h,List.foldl_append,getD_of _ h]; rfl
theorem step_same {x y : En} {nx : List En} {dn : Bool} (h : (y.id == x.id) = true) : stepI x (nx,dn) y = (nx ++ [y],true) := by
 unfold stepI
 rw [h,Bool.or_true,if_neg (fun h => by cases h.1)]
theorem step_done {x y : En} {nx : List En} : stepI x (nx,true) y = (nx ++ [y],true) := by
 unfold stepI
 rw [Bool.true_or,if_neg (fun h => by cases h.1)]
theorem step_put {x y : En} {nx : List En} (h : (y.id == x.id) = false) (h2 : I.val x.id < I.val y.id) : stepI x (nx,false) y = (nx ++ [x] ++ [y],true) := by
 unfold stepI
 rw [h,if_pos ⟨rfl,h2⟩]
theorem step_go {x y : En} {nx : List En} (h : (y.id == x.id) = false) (h2 : ¬ I.val x.id < I.val y.id) : stepI x (nx,false) y = (nx ++ [y],false) := by
 unfold stepI
 rw [h,if_neg (fun h => h2 h.2)]; rfl
def insL (x : En) (l : List En) : List En := if (stF x l l.length).2 then (stF x l l.length).1 else (stF x l l.length).1 ++ [x]
def ins2 (x : En) : List En → List En
 | [] => [x]
 | y :: l => if y.id = x.id then y :: l else if I.val x.id < I.val y.id then x :: y :: l else y :: ins2 x l
theorem fold_done (x : En) : ∀ (l nx : List En),l.foldl (stepI x) (nx,true) = (nx ++ l,true)
 | [],nx => by rw [List.append_nil]; rfl
 | y :: l,nx => by rw [List.foldl_cons,step_done,fold_done x l,List.append_assoc]; rfl
theorem fold_ins (x : En) : ∀ (l nx : List En),(if (l.foldl (stepI x) (nx,false)).2 then (l.foldl (stepI x) (nx,false)).1 else (l.foldl (stepI x) (nx,false)).1 ++ [x]) = nx ++ ins2 x l
 | [],nx => rfl
 | y :: l,nx => by
  rw [List.foldl_cons,ins2]
  by_cases h : y.id = x.id
  ·rw [step_same (beq_iff_eq.2 h),fold_done,if_pos h,List.append_assoc]; rfl
  ·have hb : (y.id == x.id) = false := beq_eq_false_iff_ne.2 h
   rw [if_neg h]
   by_cases h2 : I.val x.id < I.val y.id
   ·rw [step_put hb h2,fold_done,if_pos h2,List.append_assoc,List.append_assoc]; rfl
   ·rw [step_go hb h2,fold_ins x l,if_neg h2,List.append_assoc]; rfl
theorem insL_eq (x : En) (l : List En) : insL x l = ins2 x l := by
 have h := fold_ins x l []
 unfold insL stF
 rw [List.take_length]
 exact h
theorem ins2_mem (x : En) : ∀ (l : List En),∀ z ∈ ins2 x l,z = x ∨ z ∈ l
 | [],z,h => .inl (List.mem_singleton.1 h)
 | y :: l,z,h => by
  rw [ins2] at h
  split at h
  ·exact .inr h
  ·split at h
   ·exact List.mem_cons.1 h
   ·rcases List.mem_cons.1 h with h | h
    ·exact .inr (List.mem_cons.2 (.inl h))
    ·exact (ins2_mem x l z h).imp id (List.mem_cons_of_mem _)
theorem ins2_perm (x : En) : ∀ {l : List En},Strict l → (ins2 x l).Perm (if x.id ∈ ids l then l else l ++ [x])
 | [],_ => by rw [if_neg (show ¬ x.id ∈ ids [] from List.not_mem_nil)]; exact List.Perm.refl _
 | y :: l,hs => by
  have hs' := List.pairwise_cons.1 hs
  rw [ins2]
  by_cases h : y.id = x.id
  ·rw [if_pos h,if_pos (by rw [← h]; exact mH)]
  ·rw [if_neg h]
   by_cases h2 : I.val x.id < I.val y.id
   ·have hn : x.id ∉ ids (y :: l) := fun hm => by
     obtain ⟨z,hz,hzx⟩ := List.mem_map.1 hm
     rw [← hzx] at h2
     rcases List.mem_cons.1 hz with rfl | hz
     ·exact Nat.lt_irrefl _ h2
     ·exact Nat.lt_irrefl _ (Nat.lt_trans h2 (hs'.1 z hz))
    rw [if_pos h2,if_neg hn]
    exact (List.perm_append_singleton x (y :: l)).symm
   ·rw [if_neg h2]
    have ih := ins2_perm x hs'.2
    by_cases hm : x.id ∈ ids l
    ·rw [if_pos hm] at ih
     rw [if_pos (show x.id ∈ ids (y :: l) from List.mem_cons_of_mem _ hm)]
     exact ih.cons y
    ·rw [if_neg hm] at ih
     rw [if_neg (show ¬ x.id ∈ ids (y :: l) from fun hm2 => (List.mem_cons.1 hm2).elim (fun e => h e.symm) hm)]
     exact ih.cons y
theorem ins2_strict {x : En} (hx : x.id.length = 32) : ∀ {l : List En},(∀ e ∈ l,e.id.length = 32) → Strict l → Strict (ins2 x l)
 | [],_,_ => List.pairwise_cons.2 ⟨fun y hy => absurd hy List.not_mem_nil,List.Pairwise.nil⟩
 | y :: l,hl,hs => by
  have hs' := List.pairwise_cons.1 hs
  rw [ins2]
  by_cases h : y.id = x.id
  ·rw [if_pos h]; exact hs
  ·rw [if_neg h]
   by_cases h2 : I.val x.id < I.val y.id
   ·rw [if_pos h2]
    refine List.pairwise_cons.2 ⟨fun z hz => ?_,hs⟩
    rcases List.mem_cons.1 hz with rfl | hz
    ·exact h2
    ·exact Nat.lt_trans h2 (hs'.1 z hz)
   ·rw [if_neg h2]
    have h3 : I.val y.id ≠ I.val x.id := fun e => h (I.val_inj ((hl y mH).trans hx.symm) e)
    refine List.pairwise_cons.2 ⟨fun z hz => ?_,ins2_strict hx (fun e he => hl e (List.mem_cons_of_mem _ he)) hs'.2⟩
    rcases ins2_mem x l z hz with rfl | hz
    ·omega
    ·exact hs'.1 z hz
def srtL (ts : List ByteArray) : List En := ts.foldl (fun acc s => insL (mk0 s) acc) []
theorem srtL_take {ts : List ByteArray} {i : Nat} (h : i < ts.length) : srtL (ts.take (i + 1)) = insL (mk0 (ts.getD i ByteArray.empty)) (srtL (ts.take i)) := by
 unfold srtL
 rw [List.take_succ_eq_append_getElem h,List.foldl_append,getD_of _ h]; rfl
theorem srtL_eq (ts : List ByteArray) : srtL ts = esrt (uq ts) := by
 refine snoc_ind (p := fun ts => srtL ts = esrt (uq ts)) (List.eq_nil_of_length_eq_zero (esrt_len [])).symm (fun ts s ih => ?_) ts
 have h1 : srtL (ts ++ [s]) = ins2 (mk0 s) (esrt (uq ts)) := by
  rw [← ih,← insL_eq]
  unfold srtL
  rw [List.foldl_append]; rfl
 have h2 : uq (ts ++ [s]) = uqs (uq ts) s := by unfold uq; rw [List.foldl_append]; rfl
 rw [h1]
 refine strict_eq ?_ (ins2_strict (sdg_len s) esrt_id (esrt_strict ts)) (esrt_strict _)
 refine (ins2_perm (mk0 s) (esrt_strict ts)).trans (List.Perm.trans ?_ (esrt_perm _).symm)
 rw [h2]
 unfold uqs
 have hm : (mk0 s).id ∈ ids (esrt (uq ts)) ↔ sdg s ∈ ids (uq ts) := by unfold ids; exact (((esrt_perm (uq ts)).map En.id).mem_iff)
 by_cases hq : sdg s ∈ ids (uq ts)
 ·rw [if_pos (hm.2 hq),if_pos hq]; exact esrt_perm _
 ·rw [if_neg (fun h => hq (hm.1 h)),if_neg hq]; exact (esrt_perm _).append_right _
theorem srtL_mk0 (ts : List ByteArray) : ∀ e ∈ srtL ts,e = mk0 e.t ∧ e.t ∈ ts := fun e he => by
 rw [srtL_eq] at he
 have he := (esrt_perm _).mem_iff.1 he
 exact ⟨uq_mk0 ts e he,uq_mem ts e he⟩
theorem srtL_l (ts : List ByteArray) : ∀ e ∈ srtL ts,EnL e := fun e he => by rw [(srtL_mk0 ts e he).1]; exact mk0_l _
theorem srtL_len (ts : List ByteArray) : (srtL ts).length ≤ ts.length := by rw [srtL_eq,esrt_len]; exact uq_len ts
theorem stF_l {x : En} {l : List En} (hx : EnL x) (hl : ∀ e ∈ l,EnL e) : ∀ k,k ≤ l.length → (∀ e ∈ (stF x l k).1,EnL e) ∧ (stF x l k).1.length ≤ 2 * k
 | 0,_ => ⟨fun e he => absurd (show e ∈ ([] : List En) from he) List.not_mem_nil,Nat.le_refl _⟩
 | k + 1,hk => by
  obtain ⟨h1,h2⟩ := stF_l hx hl k om
  rw [stF_succ om]
  have hy : EnL (l.getD k ez) := hl _ (K.getD_mem om)
  generalize stF x l k = s at *
  unfold stepI
  split
  ·refine ⟨fun e he => ?_,by simp only [List.length_append,List.length_cons,List.length_nil]; omega⟩
   rcases List.mem_append.1 he with he | he
   ·rcases List.mem_append.1 he with he | he
    ·exact h1 e he
    ·rw [List.mem_singleton.1 he]; exact hx
   ·rw [List.mem_singleton.1 he]; exact hy
  ·refine ⟨fun e he => ?_,by simp only [List.length_append,List.length_cons,List.length_nil]; omega⟩
   rcases List.mem_append.1 he with he | he
   ·exact h1 e he
   ·rw [List.mem_singleton.1 he]; exact hy
set_option maxRecDepth 100000 in
set_option maxHeartbeats 8000000 in
theorem rSorted (la : Option Addr) (ca : Nat) (ts : List ByteArray) (Rl : List (Nat × Obj)) (w : World) (hI : InS Rl la ts.length (fun j => .string (ts.getD j ByteArray.empty))) (hR : Has w Rl) (hn : ts.length ≤ 1000000) (hsz : ∀ s ∈ ts,s.size ≤ 1000000) :
  Calls Tryz.prog 19 #[.slice la ts.length ca] w fun e w' => ∃ ow : K.Own,OwnOk ow 66 (srtL ts).length ((srtL ts).flatMap enr) ∧ e = .returned (.slice (Own.a ow) (srtL ts).length (Own.c ow)) ∧ ∃ R1,HP w [] R1 (Own.o 49 ((srtL ts).flatMap enr) ow) w' := by
 refine enter (vs := [.slice la ts.length ca]) [] Rl [] Tryz.func19 rfl kr (HP.ofHas hR) ?_
 refine Rg [0] [] n0 trivial ?_
 refine Rg [0,3] [] n0 trivial ?_
 refine Rg [3,11,12,13] [] n0 trivial ?_
 refine Cfg.loop rfl (ι := Nat × K.Own) (fun (xz : Nat × K.Own) => match xz with | (i,ow) => [(13,[],.int .i64 (i : Int)),(12,[],.int .i64 (ts.length : Int)),(11,[],.slice la ts.length ca),(3,[],.slice (Own.a ow) ((srtL (ts.take i)).length) (Own.c ow))]) (fun (xz : Nat × K.Own) => match xz with | (i,ow) => ([] ++ (Own.o 49 ((srtL (ts.take i)).flatMap enr) ow ++ []))) (fun (xz : Nat × K.Own) => match xz with | (i,ow) => (i ≤ ts.length) ∧ (OwnOk ow 66 (srtL (ts.take i)).length ((srtL (ts.take i)).flatMap enr))) (fun (xz : Nat × K.Own) => match xz with | (i,ow) => ts.length - i) (0,none) ?_ (Conv.mk kr) slr ?_
 ·exact ⟨Nat.zero_le _,OwnOk.none 66⟩
 ·rintro ⟨i,ow⟩ ⟨hi,hok⟩
  refine Rg [3,11,12,13,14] [] n0 trivial ?_
  refine Cfg.cond rfl (b := (decide ((i : Int) < (ts.length : Int)))) kr (fun c1r => ?_) (fun c1r => ?_)
  ·have c1 := (dT c1r)
   obtain ⟨sa,offa,csa,tea,frea,rfl,hma,hca⟩ := hI om
   refine Cg (Γ' := [(14,[],.bool (decide ((i : Int) < (ts.length : Int)))),(13,[],.int .i64 (i : Int)),(12,[],.int .i64 (ts.length : Int)),(11,[],.slice (some ⟨sa,offa,none⟩) ts.length ca),(3,[],.slice (Own.a ow) ((srtL (ts.take i)).length) (Own.c ow))]) ?_
   obtain ⟨s,hs⟩ : ∃ s,s = ts.getD i ByteArray.empty := ⟨_,rfl⟩
   have hss : s.size ≤ 1000000 := by rw [hs]; exact hsz _ (K.getD_mem om)
   have hul := srtL_len (ts.take i)
   rw [List.length_take] at hul
   have hUl := srtL_l (ts.take i)
   have hx0 := mk0_l s
   obtain ⟨U,hU⟩ : ∃ U,U = (srtL (ts.take i)) := ⟨_,rfl⟩
   refine Rg [3,5,11,12,13] [dZ,(dS (.string s))] (fun S => [(0 ≤ (i : Int) ∧ (i : Int) < (ts.length : Int)),(cE S sa (addO offa i) (.string s))]) ⟨om,(fun w1 h => by rw [addO_eq,hs]; exact (cell_cells (h.ro _ hma)).trans (hca i om)),trivial⟩ ?_
   refine Cfg.begL rfl ?_
   refine Lp 1 [] none n0 trivial ?_
   refine Le (Eff.callA (vs := [.string s]) (.agg (bv (sdg s))) rfl Tryz.func12 rfl rfl kr (fun w1 _ => rSum s w1 om)) ?_
   rintro ⟨⟩ -
   refine Lp 2 [dZ,(dS (.agg (enr (mk0 s)).toArray))] (some [3,11,12,13,20]) (fun S => [(∀ w1,S w1 → (Instr.build 49 #[(0,.agg (bv (sdg s))),(1,.string s)]).run Tryz.prog w1 = .ok (.agg (enr (mk0 s)).toArray) w1)]) ⟨(fun w1 _ => build_r (sdg_len s) s w1),trivial⟩ ?_
   refine Le (Eff.alloc (z := (.agg (enr ez).toArray)) rfl kr) ?_
   rintro xb ⟨hxb,nxb⟩
   refine Le (Eff.storeN (b := xb) (off := 0) (vs := (enr (mk0 s)).toArray) (n := 66) rfl kr kr kr (by rw [List.size_toArray,enr_len (mk0_l s)]) (fun q hq => all_enr _ q hq) 0 (cs := (enr ez).toArray) (e := 49) kr (by rw [zero_er]; decide)) ?_
   rintro ⟨⟩ -
   refine CfgL.setO (congrArg (fun (xq : Array Value) => (([(xb,.cells xq 49 (0,0))] ++ (Own.o 49 ((srtL (ts.take i)).flatMap enr) ow ++ [])) : LO)) (show _ = ((enr (mk0 s)).toArray) from spl_all (by rw [List.size_toArray,zero_er,enr_len (mk0_l s)]))) ?_
   refine CfgL.done rfl ?_
   refine Cg (Γ' := [(6,[],pT xb),(13,[],.int .i64 (i : Int)),(12,[],.int .i64 (ts.length : Int)),(11,[],.slice (some ⟨sa,offa,none⟩) ts.length ca),(3,[],.slice (Own.a ow) ((srtL (ts.take i)).length) (Own.c ow))]) ?_
   refine Rg [3,6,7,11,12,13] [] n0 trivial ?_
   refine Rg [3,6,7,8,11,12,13] [] n0 trivial ?_
   refine Rg [6,7,8,11,12,13,21,22,23] [] n0 trivial ?_
   refine Cfg.loop rfl (ι := Nat × List En × Bool × K.Own) (fun (xz : Nat × List En × Bool × K.Own) => match xz with | (k,nx,dn,nw) => [(23,[],.int .i64 (k : Int)),(22,[],.int .i64 ((srtL (ts.take i)).length : Int)),(21,[],.slice (Own.a ow) ((srtL (ts.take i)).length) (Own.c ow)),(8,[],.bool dn),(7,[],.slice (Own.a nw) nx.length (Own.c nw)),(6,[],pT xb),(13,[],.int .i64 (i : Int)),(12,[],.int .i64 (ts.length : Int)),(11,[],.slice (some ⟨sa,offa,none⟩) ts.length ca)]) (fun (xz : Nat × List En × Bool × K.Own) => match xz with | (k,nx,dn,nw) => ([(xb,.cells ((enr (mk0 s)).toArray) 49 (0,0))] ++ (Own.o 49 ((srtL (ts.take i)).flatMap enr) ow ++ (Own.o 49 (nx.flatMap enr) nw ++ [])))) (fun (xz : Nat × List En × Bool × K.Own) => match xz with | (k,nx,dn,nw) => (k ≤ (srtL (ts.take i)).length) ∧ (stF (mk0 s) (srtL (ts.take i)) k = (nx,dn)) ∧ (OwnOk nw 66 nx.length (nx.flatMap enr))) (fun (xz : Nat × List En × Bool × K.Own) => match xz with | (k,nx,dn,nw) => (srtL (ts.take i)).length - k) (0,[],false,none) ?_ (Conv.mk kr) slr ?_
   ·exact ⟨Nat.zero_le _,rfl,OwnOk.none 66⟩
   ·rintro ⟨k,nx,dn,nw⟩ ⟨hk,hst,hokn⟩
    refine Rg [6,7,8,11,12,13,21,22,23,24] [] n0 trivial ?_
    refine Cfg.cond rfl (b := (decide ((k : Int) < ((srtL (ts.take i)).length : Int)))) kr (fun c2r => ?_) (fun c2r => ?_)
    ·have c2 := (dT c2r)
     have hstl := stF_l hx0 hUl k om
     rw [hst] at hstl
     have hnl : nx.length ≤ 2 * k := hstl.2
     have hnxl : ∀ e ∈ nx,EnL e := hstl.1
     obtain ⟨b2,bcs,hba,hbm,hbc⟩ := own_at (e := 49) hok om
     obtain ⟨y,hyd⟩ : ∃ y,y = (srtL (ts.take i)).getD k ez := ⟨_,rfl⟩
     have hyl : EnL y := by rw [hyd]; exact hUl _ (K.getD_mem om)
     refine Cfg.setS 21 (congrArg (fun (xq : Value) => (xq : Value)) (show .slice (Own.a ow) ((srtL (ts.take i)).length) (Own.c ow) = .slice (some ⟨b2,0,none⟩) (srtL (ts.take i)).length (Own.c ow) from by rw [hba])) ?_
     refine Cfg.begL rfl ?_
     refine Lp 2 [dZ,(dS (.agg (enr y).toArray))] (some [6,7,8,11,12,13,21,22,23,26]) (fun S => [(0 ≤ (k : Int) ∧ (k : Int) < ((srtL (ts.take i)).length : Int)),(∀ w1,S w1 → (loadVar 49 ⟨b2,(k * 66),none⟩).run Tryz.prog w1 = .ok (.agg (enr y).toArray) w1)]) ⟨om,(fun w1 h => load_list (vs := enr y) Tryz.underlying49 rfl kr (enr_len hyl) (fun q9 v hq9 => (cell_cells (h.own _ (show _ ∈ (([(xb,Obj.cells ((enr (mk0 s)).toArray) 49 (0,0))] ++ (Own.o 49 ((srtL (ts.take i)).flatMap enr) ow ++ (Own.o 49 (nx.flatMap enr) nw ++ []))) : LO) from (mR (mL hbm))))).trans (er_cell hUl hbc (i := k) om (by rw [← hyd]; exact hq9)))),trivial⟩ ?_
     refine Le (Eff.alloc (z := (.agg (enr ez).toArray)) rfl kr) ?_
     rintro yb ⟨hyb,nyb⟩
     refine Le (Eff.storeN (b := yb) (off := 0) (vs := (enr y).toArray) (n := 66) rfl kr kr kr (by rw [List.size_toArray,enr_len hyl]) (fun q hq => all_enr _ q hq) 0 (cs := (enr ez).toArray) (e := 49) kr (by rw [zero_er]; decide)) ?_
     rintro ⟨⟩ -
     refine CfgL.setO (congrArg (fun (xq : Array Value) => (([(yb,.cells xq 49 (0,0)),(xb,.cells ((enr (mk0 s)).toArray) 49 (0,0))] ++ (Own.o 49 ((srtL (ts.take i)).flatMap enr) ow ++ (Own.o 49 (nx.flatMap enr) nw ++ []))) : LO)) (show _ = ((enr y).toArray) from spl_all (by rw [List.size_toArray,zero_er,enr_len hyl]))) ?_
     refine CfgL.done rfl ?_
     refine Cg (Γ' := [(10,[],pT yb),(23,[],.int .i64 (k : Int)),(22,[],.int .i64 ((srtL (ts.take i)).length : Int)),(21,[],.slice (some ⟨b2,0,none⟩) (srtL (ts.take i)).length (Own.c ow)),(8,[],.bool dn),(7,[],.slice (Own.a nw) nx.length (Own.c nw)),(6,[],pT xb),(13,[],.int .i64 (i : Int)),(12,[],.int .i64 (ts.length : Int)),(11,[],.slice (some ⟨sa,offa,none⟩) ts.length ca)]) ?_
     refine Rg [6,7,8,10,11,12,13,21,22,23,31] [dZ,(dS (.agg (bv y.id))),dZ,(dS (.agg (bv (mk0 s).id))),(dS (.bool (y.id == (mk0 s).id)))] (fun S => [(∀ w1,S w1 → (loadVar 36 ⟨yb,0,none⟩).run Tryz.prog w1 = .ok (.agg (bv y.id)) w1),(∀ w1,S w1 → (loadVar 36 ⟨xb,0,none⟩).run Tryz.prog w1 = .ok (.agg (bv (mk0 s).id)) w1),(∀ w1,S w1 → (Op.equal 36 (.agg (bv y.id)) (.agg (bv (mk0 s).id))).run Tryz.prog w1 = .ok (y.id == (mk0 s).id) w1)]) ⟨(fun w1 h => load_list (vs := dgc y.id) Tryz.underlying36 rfl kr (dgc_len hyl.id) (fun q9 v hq9 => h.ocell 0 rfl (by rw [List.getElem?_toArray]; exact enr_id hq9))),(fun w1 h => load_list (vs := dgc (mk0 s).id) Tryz.underlying36 rfl kr (dgc_len (mk0_l s).id) (fun q9 v hq9 => h.ocell 1 rfl (by rw [List.getElem?_toArray]; exact enr_id hq9))),(fun w1 _ => equal_bv Tryz.underlying36 Tryz.underlying5 kr hyl.id (sdg_len s)),trivial⟩ ?_
     refine Cfg.cond rfl (b := (y.id == (mk0 s).id)) kr (fun c3r => ?_) (fun c3r => ?_)
     ·have c3 : ((y.id == (mk0 s).id) = true) := c3r
      refine Rg [6,7,8,10,11,12,13,21,22,23] [] n0 trivial ?_
      refine Cfg.begA rfl kr ([(yb,.cells ((enr y).toArray) 49 (0,0)),(xb,.cells ((enr (mk0 s)).toArray) 49 (0,0))] ++ (Own.o 49 ((srtL (ts.take i)).flatMap enr) ow ++ (Own.o 49 (nx.flatMap enr) nw ++ []))) ?_
      refine Ap (List.range 11) [dZ,dZ,dZ,(2,false,none),(2,false,none),(2,false,none),(2,false,none),(2,false,none),(2,false,none),(2,false,none)] (some [6,7,8,10,11,12,13,21,22,23,42]) (tF 11 0) slr 0 (fun _ => [((.bool false : Value) ≠ .bool true),((.bool false : Value) ≠ .bool true),((.bool false : Value) ≠ .bool true),((.bool false : Value) ≠ .bool true),((.bool false : Value) ≠ .bool true),((.bool false : Value) ≠ .bool true),((.bool false : Value) ≠ .bool true)]) ⟨(by simp),(by simp),(by simp),(by simp),(by simp),(by simp),(by simp),trivial⟩ ?_
      refine CfgA.done kr ?_
      refine Cfg.condF rfl (b := false) kr rfl ?_
      refine Cfg.begL rfl ?_
      refine Lp 2 [dZ,(dS (.agg (enr y).toArray))] (some [6,7,8,11,12,13,21,22,23,47,48]) (fun S => [(∀ w1,S w1 → (loadVar 49 ⟨yb,0,none⟩).run Tryz.prog w1 = .ok (.agg (enr y).toArray) w1)]) ⟨(fun w1 h => load_list (vs := enr y) Tryz.underlying49 rfl kr (enr_len hyl) (fun q9 v hq9 => h.ocell 0 rfl (by rw [List.getElem?_toArray,Nat.zero_add]; exact hq9))),trivial⟩ ?_
      refine Le (Eff.buildAgg (vs := (enr y).toArray) (n := 66) rfl kr Tryz.underlying26 kr (z := (.agg (enr ez).toArray)) kr (by rw [List.size_toArray,enr_len hyl]) (by decide) (by decide)) ?_
      rintro nb3 ⟨hnb3,nnb3⟩
      refine Le (Eff.appendF rfl 66 88 Tryz.underlying26 kr (z := (.agg (enr ez).toArray)) kr kr nw (xs := (nx.flatMap enr)) hokn kr (b2 := nb3) (off2 := 0) (m := 1) (c2 := 1) kr (enr y) (enr_len hyl) (all_enr _) ([(nb3,.cells ((enr y).toArray) 49 (0,0)),(yb,.cells ((enr y).toArray) 49 (0,0)),(xb,.cells ((enr (mk0 s)).toArray) 49 (0,0))] ++ Own.o 49 ((srtL (ts.take i)).flatMap enr) ow) [] (by rfl) (fun w1 h j v hj => by rw [Nat.zero_add]; exact h.ocell 0 rfl (by rw [List.getElem?_toArray]; exact hj)) om om) ?_
      rintro o2 ko2
      refine Lp 1 [] (some [6,7,8,11,12,13,21,22,23]) n0 trivial ?_
      refine CfgL.done rfl ?_
      refine Rg [6,7,8,11,12,13,21,22,23] [] (fun _ => [(i6 ((k : Int) + 1))]) ⟨om,trivial⟩ ?_
      have hst2 : stF (mk0 s) (srtL (ts.take i)) (k + 1) = ((nx ++ [y]),true) := by rw [stF_succ om,hst,← hyd]; exact step_same (by simpa using c3)
      refine Cfg.setO (congrArg (fun (xq : List Value) => (([(nb3,.cells ((enr y).toArray) 49 (0,0)),(yb,.cells ((enr y).toArray) 49 (0,0)),(xb,.cells ((enr (mk0 s)).toArray) 49 (0,0))] ++ (Own.o 49 ((srtL (ts.take i)).flatMap enr) ow ++ (Own.o 49 xq o2 ++ []))) : LO)) (show _ = ((nx ++ [y]).flatMap enr) from by rw [List.flatMap_append,List.flatMap_singleton])) ?_
      refine Cfg.setS 7 (congrArg (fun (xq : Nat) => (.slice (Own.a o2) xq (Own.c o2) : Value)) (show ((nx.length + 1)) = ((nx ++ [y]).length) from by rw [List.length_append]; rfl)) ?_
      refine Cfg.setS 21 (congrArg (fun (xq : Value) => (xq : Value)) (show .slice (some ⟨b2,0,none⟩) (srtL (ts.take i)).length (Own.c ow) = .slice (Own.a ow) ((srtL (ts.take i)).length) (Own.c ow) from by rw [hba])) ?_
      refine Cfg.again rfl (k + 1,(nx ++ [y]),true,o2) ⟨by omega,hst2,by rw [List.flatMap_append,List.flatMap_singleton,List.length_append]; exact ko2⟩ (by show (srtL (ts.take i)).length - (k + 1) < (srtL (ts.take i)).length - k; omega) (Conv.mk kr) (.cons _ (.cons _ slr))
     ·have c3 : ((y.id == (mk0 s).id) = false) := c3r
      refine Cfg.begA rfl kr ([(yb,.cells ((enr y).toArray) 49 (0,0)),(xb,.cells ((enr (mk0 s)).toArray) 49 (0,0))] ++ (Own.o 49 ((srtL (ts.take i)).flatMap enr) ow ++ (Own.o 49 (nx.flatMap enr) nw ++ []))) ?_
      refine Ap [0,1,2] [] (some [6,7,8,10,11,12,13,21,22,23,34]) (tF 3 8) slr 8 n0 trivial ?_
      by_cases c5 : (!dn) = true
      ·have c5k : (!dn) = true := c5
       have c5q : (dn = false) := (notT c5k)
       refine CfgA.known 34 (b := (!dn)) kr true c5k ?_
       refine Ap [3,4,6,7] [(1,false,none),(1,false,some (.agg (bv (mk0 s).id))),(1,false,none),(1,false,some (.agg (bv y.id)))] (some [6,7,8,10,11,12,13,21,22,23,34,36,39]) (bF 223 11) slr 4 (fun S => [((.bool true : Value) = .bool true),((.bool true : Value) = .bool true),(∀ w1,S w1 → (loadVar 36 ⟨xb,0,none⟩).run Tryz.prog w1 = .ok (.agg (bv (mk0 s).id)) w1),((.bool true : Value) = .bool true),((.bool true : Value) = .bool true),(∀ w1,S w1 → (loadVar 36 ⟨yb,0,none⟩).run Tryz.prog w1 = .ok (.agg (bv y.id)) w1)]) ⟨rfl,rfl,(fun w1 h => load_list (vs := dgc (mk0 s).id) Tryz.underlying36 rfl kr (dgc_len (mk0_l s).id) (fun q9 v hq9 => h.ocell 1 rfl (by rw [List.getElem?_toArray]; exact enr_id hq9))),rfl,rfl,(fun w1 h => load_list (vs := dgc y.id) Tryz.underlying36 rfl kr (dgc_len hyl.id) (fun q9 v hq9 => h.ocell 0 rfl (by rw [List.getElem?_toArray]; exact enr_id hq9))),trivial⟩ ?_
       refine Ae 5 rfl 3  (Eff.callA (vs := [.agg (bv (mk0 s).id)]) (.string (hexS (mk0 s).id)) rfl Tryz.func50 rfl rfl kr (fun w1 _ => refHex (mk0 s).id w1 (sdg_len s))) (fun _ _ => slr) ?_
       rintro ⟨⟩ -
       refine Ae 8 rfl 2  (Eff.callA (vs := [.agg (bv y.id)]) (.string (hexS y.id)) rfl Tryz.func50 rfl rfl kr (fun w1 _ => refHex y.id w1 hyl.id)) (fun _ _ => slr) ?_
       rintro ⟨⟩ -
       refine Ap [9,10] [(1,false,none)] (some [6,7,8,10,11,12,13,21,22,23,42]) (tF 11 0) slr 0 (fun _ => [((.bool true : Value) = .bool true)]) ⟨rfl,trivial⟩ ?_
       refine CfgA.done kr ?_
       refine Cfg.cond rfl (b := (Op.bytesLess (hexS (mk0 s).id).toList (hexS y.id).toList)) kr (fun c6r => ?_) (fun c6r => ?_)
       ·have c6 : ((Op.bytesLess (hexS (mk0 s).id).toList (hexS y.id).toList) = true) := c6r
        refine Cfg.begL rfl ?_
        refine Lp 2 [dZ,(dS (.agg (enr (mk0 s)).toArray))] (some [6,7,10,11,12,13,21,22,23,43,44]) (fun S => [(∀ w1,S w1 → (loadVar 49 ⟨xb,0,none⟩).run Tryz.prog w1 = .ok (.agg (enr (mk0 s)).toArray) w1)]) ⟨(fun w1 h => load_list (vs := enr (mk0 s)) Tryz.underlying49 rfl kr (enr_len (mk0_l s)) (fun q9 v hq9 => h.ocell 1 rfl (by rw [List.getElem?_toArray,Nat.zero_add]; exact hq9))),trivial⟩ ?_
        refine Le (Eff.buildAgg (vs := (enr (mk0 s)).toArray) (n := 66) rfl kr Tryz.underlying26 kr (z := (.agg (enr ez).toArray)) kr (by rw [List.size_toArray,enr_len (mk0_l s)]) (by decide) (by decide)) ?_
        rintro nb4 ⟨hnb4,nnb4⟩
        refine Le (Eff.appendF rfl 66 88 Tryz.underlying26 kr (z := (.agg (enr ez).toArray)) kr kr nw (xs := (nx.flatMap enr)) hokn kr (b2 := nb4) (off2 := 0) (m := 1) (c2 := 1) kr (enr (mk0 s)) (enr_len (mk0_l s)) (all_enr _) ([(nb4,.cells ((enr (mk0 s)).toArray) 49 (0,0)),(yb,.cells ((enr y).toArray) 49 (0,0)),(xb,.cells ((enr (mk0 s)).toArray) 49 (0,0))] ++ Own.o 49 ((srtL (ts.take i)).flatMap enr) ow) [] (by rfl) (fun w1 h j v hj => by rw [Nat.zero_add]; exact h.ocell 0 rfl (by rw [List.getElem?_toArray]; exact hj)) om om) ?_
        rintro o5 ko5
        refine Lp 1 [] (some [6,7,10,11,12,13,21,22,23]) n0 trivial ?_
        refine CfgL.done rfl ?_
        refine Rg [6,7,8,10,11,12,13,21,22,23] [] n0 trivial ?_
        refine Cfg.begL rfl ?_
        refine Lp 2 [dZ,(dS (.agg (enr y).toArray))] (some [6,7,8,11,12,13,21,22,23,47,48]) (fun S => [(∀ w1,S w1 → (loadVar 49 ⟨yb,0,none⟩).run Tryz.prog w1 = .ok (.agg (enr y).toArray) w1)]) ⟨(fun w1 h => load_list (vs := enr y) Tryz.underlying49 rfl kr (enr_len hyl) (fun q9 v hq9 => h.ocell 1 rfl (by rw [List.getElem?_toArray,Nat.zero_add]; exact hq9))),trivial⟩ ?_
        refine Le (Eff.buildAgg (vs := (enr y).toArray) (n := 66) rfl kr Tryz.underlying26 kr (z := (.agg (enr ez).toArray)) kr (by rw [List.size_toArray,enr_len hyl]) (by decide) (by decide)) ?_
        rintro nb5 ⟨hnb5,nnb5⟩
        refine Le (Eff.appendF rfl 66 88 Tryz.underlying26 kr (z := (.agg (enr ez).toArray)) kr kr o5 (xs := ((nx.flatMap enr) ++ (enr (mk0 s)))) ko5 kr (b2 := nb5) (off2 := 0) (m := 1) (c2 := 1) kr (enr y) (enr_len hyl) (all_enr _) ([(nb5,.cells ((enr y).toArray) 49 (0,0)),(nb4,.cells ((enr (mk0 s)).toArray) 49 (0,0)),(yb,.cells ((enr y).toArray) 49 (0,0)),(xb,.cells ((enr (mk0 s)).toArray) 49 (0,0))] ++ Own.o 49 ((srtL (ts.take i)).flatMap enr) ow) [] (by rfl) (fun w1 h j v hj => by rw [Nat.zero_add]; exact h.ocell 0 rfl (by rw [List.getElem?_toArray]; exact hj)) om om) ?_
        rintro o6 ko6
        refine CfgL.pure 1 [] (some [6,7,8,11,12,13,21,22,23]) (Γ' := [(7,[],.slice (Own.a o6) (((nx.length + 1) + 1)) (Own.c o6)),(8,[],.bool true),(23,[],.int .i64 (k : Int)),(22,[],.int .i64 ((srtL (ts.take i)).length : Int)),(21,[],.slice (some ⟨b2,0,none⟩) (srtL (ts.take i)).length (Own.c ow)),(6,[],pT xb),(13,[],.int .i64 (i : Int)),(12,[],.int .i64 (ts.length : Int)),(11,[],.slice (some ⟨sa,offa,none⟩) ts.length ca)]) (nd := (fun _ => [])) kr (fun _ => kr) trivial ?_
        refine CfgL.done rfl ?_
        refine Rg [6,7,8,11,12,13,21,22,23] [] (fun _ => [(i6 ((k : Int) + 1))]) ⟨om,trivial⟩ ?_
        have hst2 : stF (mk0 s) (srtL (ts.take i)) (k + 1) = ((nx ++ [mk0 s] ++ [y]),true) := by rw [stF_succ om,hst,← hyd]; exact (by rw [show dn = false by simpa using c5]; exact step_put (by simpa using c3) (dT (by rw [← hex_val hx0.id hyl.id]; simpa using c6)))
        refine Cfg.setO (congrArg (fun (xq : List Value) => (([(nb5,.cells ((enr y).toArray) 49 (0,0)),(nb4,.cells ((enr (mk0 s)).toArray) 49 (0,0)),(yb,.cells ((enr y).toArray) 49 (0,0)),(xb,.cells ((enr (mk0 s)).toArray) 49 (0,0))] ++ (Own.o 49 ((srtL (ts.take i)).flatMap enr) ow ++ (Own.o 49 xq o6 ++ []))) : LO)) (show _ = ((nx ++ [mk0 s] ++ [y]).flatMap enr) from by rw [List.flatMap_append,List.flatMap_singleton,List.flatMap_append,List.flatMap_singleton])) ?_
        refine Cfg.setS 7 (congrArg (fun (xq : Nat) => (.slice (Own.a o6) xq (Own.c o6) : Value)) (show (((nx.length + 1) + 1)) = ((nx ++ [mk0 s] ++ [y]).length) from by rw [List.length_append,List.length_append]; rfl)) ?_
        refine Cfg.setS 21 (congrArg (fun (xq : Value) => (xq : Value)) (show .slice (some ⟨b2,0,none⟩) (srtL (ts.take i)).length (Own.c ow) = .slice (Own.a ow) ((srtL (ts.take i)).length) (Own.c ow) from by rw [hba])) ?_
        refine Cfg.again rfl (k + 1,(nx ++ [mk0 s] ++ [y]),true,o6) ⟨by omega,hst2,by rw [List.flatMap_append,List.flatMap_singleton,List.flatMap_append,List.flatMap_singleton,List.length_append,List.length_append]; exact ko6⟩ (by show (srtL (ts.take i)).length - (k + 1) < (srtL (ts.take i)).length - k; omega) (Conv.mk kr) (.cons _ (.cons _ (.cons _ slr)))
       ·have c6 : ((Op.bytesLess (hexS (mk0 s).id).toList (hexS y.id).toList) = false) := c6r
        refine Cfg.begL rfl ?_
        refine Lp 2 [dZ,(dS (.agg (enr y).toArray))] (some [6,7,8,11,12,13,21,22,23,47,48]) (fun S => [(∀ w1,S w1 → (loadVar 49 ⟨yb,0,none⟩).run Tryz.prog w1 = .ok (.agg (enr y).toArray) w1)]) ⟨(fun w1 h => load_list (vs := enr y) Tryz.underlying49 rfl kr (enr_len hyl) (fun q9 v hq9 => h.ocell 0 rfl (by rw [List.getElem?_toArray,Nat.zero_add]; exact hq9))),trivial⟩ ?_
        refine Le (Eff.buildAgg (vs := (enr y).toArray) (n := 66) rfl kr Tryz.underlying26 kr (z := (.agg (enr ez).toArray)) kr (by rw [List.size_toArray,enr_len hyl]) (by decide) (by decide)) ?_
        rintro nb6 ⟨hnb6,nnb6⟩
        refine Le (Eff.appendF rfl 66 88 Tryz.underlying26 kr (z := (.agg (enr ez).toArray)) kr kr nw (xs := (nx.flatMap enr)) hokn kr (b2 := nb6) (off2 := 0) (m := 1) (c2 := 1) kr (enr y) (enr_len hyl) (all_enr _) ([(nb6,.cells ((enr y).toArray) 49 (0,0)),(yb,.cells ((enr y).toArray) 49 (0,0)),(xb,.cells ((enr (mk0 s)).toArray) 49 (0,0))] ++ Own.o 49 ((srtL (ts.take i)).flatMap enr) ow) [] (by rfl) (fun w1 h j v hj => by rw [Nat.zero_add]; exact h.ocell 0 rfl (by rw [List.getElem?_toArray]; exact hj)) om om) ?_
        rintro o7 ko7
        refine Lp 1 [] (some [6,7,8,11,12,13,21,22,23]) n0 trivial ?_
        refine CfgL.done rfl ?_
        refine Rg [6,7,8,11,12,13,21,22,23] [] (fun _ => [(i6 ((k : Int) + 1))]) ⟨om,trivial⟩ ?_
        have hst2 : stF (mk0 s) (srtL (ts.take i)) (k + 1) = ((nx ++ [y]),false) := by rw [stF_succ om,hst,← hyd]; exact (by rw [show dn = false by simpa using c5]; exact step_go (by simpa using c3) (dF (by rw [← hex_val hx0.id hyl.id]; simpa using c6)))
        refine Cfg.setO (congrArg (fun (xq : List Value) => (([(nb6,.cells ((enr y).toArray) 49 (0,0)),(yb,.cells ((enr y).toArray) 49 (0,0)),(xb,.cells ((enr (mk0 s)).toArray) 49 (0,0))] ++ (Own.o 49 ((srtL (ts.take i)).flatMap enr) ow ++ (Own.o 49 xq o7 ++ []))) : LO)) (show _ = ((nx ++ [y]).flatMap enr) from by rw [List.flatMap_append,List.flatMap_singleton])) ?_
        refine Cfg.setS 7 (congrArg (fun (xq : Nat) => (.slice (Own.a o7) xq (Own.c o7) : Value)) (show ((nx.length + 1)) = ((nx ++ [y]).length) from by rw [List.length_append]; rfl)) ?_
        refine Cfg.setS 21 (congrArg (fun (xq : Value) => (xq : Value)) (show .slice (some ⟨b2,0,none⟩) (srtL (ts.take i)).length (Own.c ow) = .slice (Own.a ow) ((srtL (ts.take i)).length) (Own.c ow) from by rw [hba])) ?_
        refine Cfg.setS 8 (congrArg (fun (xq : Bool) => (.bool xq : Value)) (show dn = false from by simpa using c5)) ?_
        refine Cfg.again rfl (k + 1,(nx ++ [y]),false,o7) ⟨by omega,hst2,by rw [List.flatMap_append,List.flatMap_singleton,List.length_append]; exact ko7⟩ (by show (srtL (ts.take i)).length - (k + 1) < (srtL (ts.take i)).length - k; omega) (Conv.mk kr) (.cons _ (.cons _ slr))
      ·have c5k : (!dn) = false := (by simpa using c5)
       have c5q : (dn = true) := (notF c5k)
       refine CfgA.known 34 (b := (!dn)) kr false c5k ?_
       refine Ap [3,4,5,6,7,8,9,10] [(2,false,none),(2,false,none),(2,false,none),(2,false,none),(2,false,none),(2,false,none),(2,false,none)] (some [6,7,8,10,11,12,13,21,22,23,42]) (tF 11 0) slr 0 (fun _ => [((.bool false : Value) ≠ .bool true),((.bool false : Value) ≠ .bool true),((.bool false : Value) ≠ .bool true),((.bool false : Value) ≠ .bool true),((.bool false : Value) ≠ .bool true),((.bool false : Value) ≠ .bool true),((.bool false : Value) ≠ .bool true)]) ⟨(by simp),(by simp),(by simp),(by simp),(by simp),(by simp),(by simp),trivial⟩ ?_
       refine CfgA.done kr ?_
       refine Cfg.condF rfl (b := false) kr rfl ?_
       refine Cfg.begL rfl ?_
       refine Lp 2 [dZ,(dS (.agg (enr y).toArray))] (some [6,7,8,11,12,13,21,22,23,47,48]) (fun S => [(∀ w1,S w1 → (loadVar 49 ⟨yb,0,none⟩).run Tryz.prog w1 = .ok (.agg (enr y).toArray) w1)]) ⟨(fun w1 h => load_list (vs := enr y) Tryz.underlying49 rfl kr (enr_len hyl) (fun q9 v hq9 => h.ocell 0 rfl (by rw [List.getElem?_toArray,Nat.zero_add]; exact hq9))),trivial⟩ ?_
       refine Le (Eff.buildAgg (vs := (enr y).toArray) (n := 66) rfl kr Tryz.underlying26 kr (z := (.agg (enr ez).toArray)) kr (by rw [List.size_toArray,enr_len hyl]) (by decide) (by decide)) ?_
       rintro nb7 ⟨hnb7,nnb7⟩
       refine Le (Eff.appendF rfl 66 88 Tryz.underlying26 kr (z := (.agg (enr ez).toArray)) kr kr nw (xs := (nx.flatMap enr)) hokn kr (b2 := nb7) (off2 := 0) (m := 1) (c2 := 1) kr (enr y) (enr_len hyl) (all_enr _) ([(nb7,.cells ((enr y).toArray) 49 (0,0)),(yb,.cells ((enr y).toArray) 49 (0,0)),(xb,.cells ((enr (mk0 s)).toArray) 49 (0,0))] ++ Own.o 49 ((srtL (ts.take i)).flatMap enr) ow) [] (by rfl) (fun w1 h j v hj => by rw [Nat.zero_add]; exact h.ocell 0 rfl (by rw [List.getElem?_toArray]; exact hj)) om om) ?_
       rintro o8 ko8
       refine Lp 1 [] (some [6,7,8,11,12,13,21,22,23]) n0 trivial ?_
       refine CfgL.done rfl ?_
       refine Rg [6,7,8,11,12,13,21,22,23] [] (fun _ => [(i6 ((k : Int) + 1))]) ⟨om,trivial⟩ ?_
       have hst2 : stF (mk0 s) (srtL (ts.take i)) (k + 1) = ((nx ++ [y]),true) := by rw [stF_succ om,hst,← hyd]; exact (by rw [show dn = true by simpa using c5]; exact step_done)
       refine Cfg.setO (congrArg (fun (xq : List Value) => (([(nb7,.cells ((enr y).toArray) 49 (0,0)),(yb,.cells ((enr y).toArray) 49 (0,0)),(xb,.cells ((enr (mk0 s)).toArray) 49 (0,0))] ++ (Own.o 49 ((srtL (ts.take i)).flatMap enr) ow ++ (Own.o 49 xq o8 ++ []))) : LO)) (show _ = ((nx ++ [y]).flatMap enr) from by rw [List.flatMap_append,List.flatMap_singleton])) ?_
       refine Cfg.setS 7 (congrArg (fun (xq : Nat) => (.slice (Own.a o8) xq (Own.c o8) : Value)) (show ((nx.length + 1)) = ((nx ++ [y]).length) from by rw [List.length_append]; rfl)) ?_
       refine Cfg.setS 21 (congrArg (fun (xq : Value) => (xq : Value)) (show .slice (some ⟨b2,0,none⟩) (srtL (ts.take i)).length (Own.c ow) = .slice (Own.a ow) ((srtL (ts.take i)).length) (Own.c ow) from by rw [hba])) ?_
       refine Cfg.setS 8 (congrArg (fun (xq : Bool) => (.bool xq : Value)) (show dn = true from by simpa using c5)) ?_
       refine Cfg.again rfl (k + 1,(nx ++ [y]),true,o8) ⟨by omega,hst2,by rw [List.flatMap_append,List.flatMap_singleton,List.length_append]; exact ko8⟩ (by show (srtL (ts.take i)).length - (k + 1) < (srtL (ts.take i)).length - k; omega) (Conv.mk kr) (.cons _ (.cons _ slr))
    ·have c2 := (dF c2r)
     refine Rg [6,7,11,12,13,53] [] n0 trivial ?_
     refine Cfg.cond rfl (b := (!dn)) kr (fun c8r => ?_) (fun c8r => ?_)
     ·have c8 : (dn = false) := (notT c8r)
      have hstl := stF_l hx0 hUl k om
      rw [hst] at hstl
      have hnl : nx.length ≤ 2 * k := hstl.2
      refine Cfg.begL rfl ?_
      refine Lp 2 [dZ,(dS (.agg (enr (mk0 s)).toArray))] (some [7,11,12,13,54,55]) (fun S => [(∀ w1,S w1 → (loadVar 49 ⟨xb,0,none⟩).run Tryz.prog w1 = .ok (.agg (enr (mk0 s)).toArray) w1)]) ⟨(fun w1 h => load_list (vs := enr (mk0 s)) Tryz.underlying49 rfl kr (enr_len (mk0_l s)) (fun q9 v hq9 => h.ocell 0 rfl (by rw [List.getElem?_toArray,Nat.zero_add]; exact hq9))),trivial⟩ ?_
      refine Le (Eff.buildAgg (vs := (enr (mk0 s)).toArray) (n := 66) rfl kr Tryz.underlying26 kr (z := (.agg (enr ez).toArray)) kr (by rw [List.size_toArray,enr_len (mk0_l s)]) (by decide) (by decide)) ?_
      rintro nb8 ⟨hnb8,nnb8⟩
      refine Le (Eff.appendF rfl 66 88 Tryz.underlying26 kr (z := (.agg (enr ez).toArray)) kr kr nw (xs := (nx.flatMap enr)) hokn kr (b2 := nb8) (off2 := 0) (m := 1) (c2 := 1) kr (enr (mk0 s)) (enr_len (mk0_l s)) (all_enr _) ([(nb8,.cells ((enr (mk0 s)).toArray) 49 (0,0)),(xb,.cells ((enr (mk0 s)).toArray) 49 (0,0))] ++ Own.o 49 ((srtL (ts.take i)).flatMap enr) ow) [] (by rfl) (fun w1 h j v hj => by rw [Nat.zero_add]; exact h.ocell 0 rfl (by rw [List.getElem?_toArray]; exact hj)) om om) ?_
      rintro o9 ko9
      refine Lp 1 [] (some [7,11,12,13]) n0 trivial ?_
      refine CfgL.done rfl ?_
      refine Rg [3,11,12,13] [] n0 trivial ?_
      refine Rg [3,11,12,13] [] (fun _ => [(i6 ((i : Int) + 1))]) ⟨om,trivial⟩ ?_
      have hke : k = (srtL (ts.take i)).length := by omega
      rw [hke] at hst
      have hV : srtL (ts.take (i + 1)) = (nx ++ [mk0 s]) := by rw [srtL_take om,← hs,insL,hst]; exact if_neg (by simpa using c8)
      refine Cfg.setO (congrArg (fun (xq : List Value) => (([(nb8,.cells ((enr (mk0 s)).toArray) 49 (0,0)),(xb,.cells ((enr (mk0 s)).toArray) 49 (0,0))] ++ (Own.o 49 ((srtL (ts.take i)).flatMap enr) ow ++ (Own.o 49 xq o9 ++ []))) : LO)) (show _ = ((srtL (ts.take (i + 1))).flatMap enr) from by rw [hV,List.flatMap_append,List.flatMap_singleton])) ?_
      refine Cfg.setS 3 (congrArg (fun (xq : Nat) => (.slice (Own.a o9) xq (Own.c o9) : Value)) (show ((nx.length + 1)) = ((srtL (ts.take (i + 1))).length) from by rw [hV,List.length_append]; rfl)) ?_
      refine Cfg.again rfl (i + 1,o9) ⟨by omega,by rw [hV]; rw [List.flatMap_append,List.flatMap_singleton,List.length_append]; exact ko9⟩ (by show ts.length - (i + 1) < ts.length - i; omega) (Conv.mk kr) (.cons _ (.cons _ (show List.Sublist (Own.o 49 ((srtL (ts.take (i + 1))).flatMap enr) o9 ++ []) (Own.o 49 ((srtL (ts.take i)).flatMap enr) ow ++ (Own.o 49 ((srtL (ts.take (i + 1))).flatMap enr) o9 ++ [])) from (List.Sublist.trans (List.Sublist.append (List.Sublist.refl (Own.o 49 ((srtL (ts.take (i + 1))).flatMap enr) o9)) (List.nil_sublist _)) (List.sublist_append_right (Own.o 49 ((srtL (ts.take i)).flatMap enr) ow) _)))))
     ·have c8 : (dn = true) := (notF c8r)
      refine Rg [3,11,12,13] [] n0 trivial ?_
      refine Rg [3,11,12,13] [] (fun _ => [(i6 ((i : Int) + 1))]) ⟨om,trivial⟩ ?_
      have hke : k = (srtL (ts.take i)).length := by omega
      rw [hke] at hst
      have hV : srtL (ts.take (i + 1)) = nx := by rw [srtL_take om,← hs,insL,hst]; exact if_pos (by simpa using c8)
      refine Cfg.setO (congrArg (fun (xq : List Value) => (([(xb,.cells ((enr (mk0 s)).toArray) 49 (0,0))] ++ (Own.o 49 ((srtL (ts.take i)).flatMap enr) ow ++ (Own.o 49 xq nw ++ []))) : LO)) (show _ = ((srtL (ts.take (i + 1))).flatMap enr) from by rw [hV])) ?_
      refine Cfg.setS 3 (congrArg (fun (xq : Nat) => (.slice (Own.a nw) xq (Own.c nw) : Value)) (show nx.length = ((srtL (ts.take (i + 1))).length) from by rw [hV])) ?_
      refine Cfg.again rfl (i + 1,nw) ⟨by omega,by rw [hV]; exact hokn⟩ (by show ts.length - (i + 1) < ts.length - i; omega) (Conv.mk kr) (.cons _ (show List.Sublist (Own.o 49 ((srtL (ts.take (i + 1))).flatMap enr) nw ++ []) (Own.o 49 ((srtL (ts.take i)).flatMap enr) ow ++ (Own.o 49 ((srtL (ts.take (i + 1))).flatMap enr) nw ++ [])) from (List.Sublist.trans (List.Sublist.append (List.Sublist.refl (Own.o 49 ((srtL (ts.take (i + 1))).flatMap enr) nw)) (List.nil_sublist _)) (List.sublist_append_right (Own.o 49 ((srtL (ts.take i)).flatMap enr) ow) _))))
  ·have c1 := (dF c1r)
   refine Rg [2] [] n0 trivial ?_
   refine Cfg.ret rfl (rs := [.tmp 2]) rfl [.slice (Own.a ow) ((srtL (ts.take i)).length) (Own.c ow)] ⟨kr,trivial⟩ (fun w1 hp => ?_)
   have hie : ts.take i = ts := List.take_of_length_le om
   have h9 : HP w [] Rl ([] ++ (Own.o 49 ((srtL (ts.take i)).flatMap enr) ow ++ [])) w1 := hp
   rw [hie,List.append_nil,List.nil_append] at h9
   rw [hie] at hok
   exact ⟨ow,hok,by rw [hie]; rfl,_,h9⟩
end Go.Proofs.YtbeegepcdglcaaaGreatDoor
namespace Go.Proofs.YtbeegepcdglcaaaGreatDoor
open K
set_option linter.unusedVariables false
theorem splL_mid {X B Z vs : List Value} {off : Nat} (h : off + vs.length ≤ B.length) : K.splL (X ++ (B ++ Z)) (X.length + off) vs = X ++ (K.splL B off vs ++ Z) := by
 unfold K.splL
 rw [List.take_append,List.take_of_length_le om,List.drop_append,List.drop_of_length_le om,List.nil_append]
 rw [show X.length + off - X.length = off by omega,show X.length + off + vs.length - X.length = off + vs.length by omega]
 rw [List.take_append_of_le_length om,List.drop_append_of_le_length h]
 simp only [List.append_assoc]
theorem set_mid {l : List En} {i : Nat} (hi : i < l.length) (y : En) : l.set i y = l.take i ++ (y :: l.drop (i + 1)) := by
 rw [List.set_eq_take_append_cons_drop,if_pos hi]
theorem er_set {l : List En} (hl : ∀ e ∈ l,EnL e) {i : Nat} (hi : i < l.length) {y : En} {off : Nat} {vs : List Value} (hv : K.splL (enr (l.getD i ez)) off vs = enr y) (hb : off + vs.length ≤ 66) : K.splL (l.flatMap enr) (i * 66 + off) vs = (l.set i y).flatMap enr := by
 have h1 : ((l.take i).flatMap enr).length = i * 66 := by rw [enrl_len (fun e he => hl e (List.mem_of_mem_take he)),List.length_take,Nat.min_eq_left om]
 have e1 : l.flatMap enr = (l.take i).flatMap enr ++ (enr (l.getD i ez) ++ (l.drop (i + 1)).flatMap enr) := by
  rw [← List.flatMap_cons,← List.flatMap_append,getD_of _ hi,← List.drop_eq_getElem_cons hi,List.take_append_drop]
 have h2 : (enr (l.getD i ez)).length = 66 := enr_len (hl _ (K.getD_mem hi))
 rw [e1,← h1,splL_mid om,hv,set_mid hi,List.flatMap_append,List.flatMap_cons]
theorem enr_setp (x : En) (hx : EnL x) (n : Nat) : K.splL (enr x) 33 [.int .i64 ((n : Int) + 1)] = enr { x with p := n + 1 } := by
 have h1 := splL_mid (X := dgc x.id ++ [Value.string x.t]) (B := [.int .i64 (x.p : Int)]) (Z := dgc x.b) (vs := [.int .i64 ((n : Int) + 1)]) (off := 0) (Nat.le_refl _)
 have hl : (dgc x.id ++ [Value.string x.t]).length = 33 := by rw [List.length_append,dgc_len hx.id]; rfl
 rw [hl] at h1
 have e : enr x = (dgc x.id ++ [Value.string x.t]) ++ ([.int .i64 (x.p : Int)] ++ dgc x.b) := by unfold enr; simp only [List.append_assoc]; rfl
 rw [e,h1]
 unfold enr K.splL
 simp only [List.append_assoc]; rfl
theorem enr_setb (x : En) (hx : EnL x) {d : List UInt8} (hd : d.length = 32) : K.splL (enr x) 34 (bv d).toList = enr { x with b := d } := by
 have h1 := splL_mid (X := dgc x.id ++ [Value.string x.t,.int .i64 (x.p : Int)]) (B := dgc x.b) (Z := []) (vs := dgc d) (off := 0) (by rw [dgc_len hd,dgc_len hx.b]; decide)
 have hl : (dgc x.id ++ [Value.string x.t,.int .i64 (x.p : Int)]).length = 34 := by rw [List.length_append,dgc_len hx.id]; rfl
 rw [hl,List.append_nil,List.append_nil] at h1
 have e : enr x = (dgc x.id ++ [Value.string x.t,.int .i64 (x.p : Int)]) ++ dgc x.b := by unfold enr; simp only [List.append_assoc]
 rw [e,show (bv d).toList = dgc d from rfl,h1]
 unfold enr K.splL
 rw [List.take_zero,List.nil_append,Nat.zero_add,List.drop_of_length_le (by rw [dgc_len hd,dgc_len hx.b]; exact Nat.le_refl _),List.append_nil]
 simp only [List.append_assoc]
theorem set_enr {a b : En} (h : enr a = enr b) {l : List En} {i : Nat} (hi : i < l.length) : (l.set i a).flatMap enr = (l.set i b).flatMap enr := by
 rw [set_mid hi,set_mid hi,List.flatMap_append,List.flatMap_append,List.flatMap_cons,List.flatMap_cons,h]
theorem pre_step {L : List En} {i : Nat} (h : i < L.length) {y : En} (hy : mkE (chn (L.take i)) (L.getD i ez) = y) : pre L (i + 1) = (pre L i).set i y := by
 have hc := chn_tl L (i := i) om
 rw [set_mid (by rw [pre_len L om]; exact h)]
 have e1 : (pre L i).take i = chn (L.take i) := by
  unfold pre
  rw [List.take_append_of_le_length om,List.take_of_length_le om]
 have e2 : (pre L i).drop (i + 1) = L.drop (i + 1) := by
  unfold pre
  rw [List.drop_append,List.drop_of_length_le om,List.nil_append,hc,List.drop_drop]
  congr 1; omega
 rw [e1,e2]
 unfold pre
 rw [chn_take h,hy,List.append_assoc]; rfl
theorem set_l {l : List En} (hl : ∀ e ∈ l,EnL e) {i : Nat} {y : En} (hy : EnL y) : ∀ e ∈ l.set i y,EnL e := fun e he => (List.mem_or_eq_of_mem_set he).elim (hl e) (fun h => h ▸ hy)
theorem set_ne {l : List En} {i j : Nat} (h : i ≠ j) {y : En} : (l.set i y).getD j ez = l.getD j ez := by
 rw [List.getD_eq_getElem?_getD,List.getD_eq_getElem?_getD,List.getElem?_set_ne h]
theorem set_at {l : List En} {i : Nat} (h : i < l.length) {y : En} : (l.set i y).getD i ez = y := by
 rw [List.getD_eq_getElem?_getD,List.getElem?_set_self h]; rfl
def atK (acc : List En) (x : En) (k : Nat) : Option Nat := if x.t.size = 0 then none else lst (acc.take k) (fb x.t)
def atZ : Option Nat → Int
 | none => -1
 | some j => (j : Int)
theorem atK_zero (acc : List En) (x : En) : atK acc x 0 = none := by unfold atK; split <;> rfl
theorem atK_succ {acc : List En} {x : En} {k : Nat} (h : k < acc.length) : atK acc x (k + 1) = if 0 < x.t.size ∧ 0 < (acc.getD k ez).t.size ∧ fb (acc.getD k ez).t = fb x.t then some k else atK acc x k := by
 unfold atK
 by_cases h0 : x.t.size = 0
 ·rw [if_pos h0,if_pos h0,if_neg (fun h => by omega)]
 ·rw [if_neg h0,if_neg h0,List.take_succ_eq_append_getElem h,← getD_of ez h,lst_snoc,List.length_take,Nat.min_eq_left om]
  by_cases h1 : 0 < (acc.getD k ez).t.size ∧ fb (acc.getD k ez).t = fb x.t
  ·rw [if_pos h1,if_pos ⟨by omega,h1⟩]
  ·rw [if_neg h1,if_neg (fun h => h1 h.2)]
theorem atK_end {acc : List En} {x : En} {k : Nat} (h : acc.length ≤ k) : atK acc x k = if x.t.size = 0 then none else lst acc (fb x.t) := by unfold atK; rw [List.take_of_length_le h]
theorem atZ_le {acc : List En} {x : En} {k : Nat} : -1 ≤ atZ (atK acc x k) ∧ atZ (atK acc x k) < acc.length + 1 := by
 unfold atK
 split
 ·exact ⟨Int.le_refl _,by show (-1 : Int) < _; omega⟩
 ·cases h : lst (acc.take k) (fb x.t) with
  | none => exact ⟨Int.le_refl _,by show (-1 : Int) < _; omega⟩
  | some j =>
   have := lst_lt h
   rw [List.length_take] at this
   exact ⟨by show (-1 : Int) ≤ (j : Int); omega,by show (j : Int) < _; omega⟩
theorem sb_fb (s : ByteArray) : sbyte s 0 = (fb s : Int) := rfl
def bodyP (L : List En) (i : Nat) : List UInt8 := [80,65,67,75] ++ (four L.length ++ flat partE (chn (L.take i)))
theorem bodyP_zero (L : List En) : (⟨#[80,65,67,75]⟩ : ByteArray) ++ beS L.length 4 = tx (bodyP L 0) := by
 unfold bodyP
 rw [show flat partE (chn (L.take 0)) = [] from rfl,List.append_nil]
 exact tx_app [80,65,67,75] (be L.length 4)
theorem bodyP_end (L : List En) : bodyP L L.length = bodyF (chn L) := by unfold bodyP bodyF; rw [List.take_length,chn_len]
theorem bodyP_len {L : List En} (h : ∀ e ∈ L,EnOk e) (i : Nat) : (bodyP L i).length ≤ 8 + 32837 * L.length := by
 have h1 := (parts_len (chn_ok (L.take i) fun e he => h e (List.mem_of_mem_take he))).2
 have h2 : (chn (L.take i)).length ≤ L.length := by rw [chn_len,List.length_take]; omega
 have h4 : (four L.length).length = 4 := be_len _ _
 unfold bodyP
 rw [List.length_append,List.length_append,h4]
 show 4 + _ ≤ _
 omega
theorem bodyP_w {L : List En} {i : Nat} (h : i < L.length) {x : En} (hx : x = L.getD i ez) (hm : mkE (chn (L.take i)) x = x) (hp : x.p = 0) : (tx (bodyP L i) ++ tx x.id) ++ (⟨#[0]⟩ : ByteArray) ++ tx (text4 x.t) = tx (bodyP L (i + 1)) := by
 rw [show (⟨#[0]⟩ : ByteArray) = tx [0] from rfl,tx_app,tx_app,tx_app]
 unfold bodyP
 rw [chn_take h,← hx,hm]
 have e : flat partE (chn (L.take i) ++ [x]) = flat partE (chn (L.take i)) ++ partE x := by unfold flat; rw [List.flatMap_append,List.flatMap_singleton]
 have e2 : partE x = x.id ++ ([0] ++ text4 x.t) := by unfold partE; rw [if_neg om]; rfl
 rw [e,e2]
 simp only [List.append_assoc]
theorem bodyP_d {L : List En} {i : Nat} (h : i < L.length) {x z : En} (hx : x = L.getD i ez) (hm : mkE (chn (L.take i)) x = z) (hp : 0 < z.p) (hi : z.id = x.id) : (tx (bodyP L i) ++ tx x.id) ++ (⟨#[1]⟩ : ByteArray) ++ tx z.b ++ tx (text4 z.d) = tx (bodyP L (i + 1)) := by
 rw [show (⟨#[1]⟩ : ByteArray) = tx [1] from rfl,tx_app,tx_app,tx_app,tx_app]
 unfold bodyP
 rw [chn_take h,← hx,hm]
 have e : flat partE (chn (L.take i) ++ [z]) = flat partE (chn (L.take i)) ++ partE z := by unfold flat; rw [List.flatMap_append,List.flatMap_singleton]
 have e2 : partE z = x.id ++ ([1] ++ (z.b ++ text4 z.d)) := by unfold partE; rw [if_pos hp,hi]; rfl
 rw [e,e2]
 simp only [List.append_assoc]
theorem rNumMod (x : Nat) (hx : x < 9223372036854775808) (w : World) : Calls Tryz.prog 20 #[.int .u64 ((x : Int) % 18446744073709551616),.int .i64 4] w fun e w' => e = .returned (.string (beS x 4)) ∧ Ext [] w w' := by
 rw [show (x : Int) % 18446744073709551616 = (x : Int) by omega]
 exact rNum x 4 w om om
theorem okLen {o : K.Own} {sz n : Nat} {xs ys : List Value} (hok : OwnOk o sz n xs) (h : ys.length = xs.length) : OwnOk o sz n ys :=
 ⟨h.trans hok.len,hok.nil,fun p hp => by rw [h]; exact hok.some p hp⟩
end Go.Proofs.YtbeegepcdglcaaaGreatDoor
