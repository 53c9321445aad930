/- The document's rotation and its constants. -/
import Derived.Test.YtphnkangpboplaaDoorShaM
import Derived.Test.YtphnkangpboplaaDoorK16
namespace Go.Proofs.YtphnkangpboplaaDoor
open K
set_option linter.unusedVariables false

theorem tm_lt (x : Int) : (x % 4294967296).toNat < 2 ^ 32 := by omega
theorem rotr_or (x a b : Nat) : (x / b) ||| (x * a % 4294967296) = rotl x a b := Nat.or_comm _ _
def ck (l : List UInt8) (q : Nat) : List UInt8 := (l.drop (64 * q)).take 64
theorem ck_get {l : List UInt8} {q j i : Nat} (hj : j < 64) (hi : i = 64 * q + j) : bt4 (ck l q) j = (l.getD i 0).toNat := by
  unfold bt4 ck
  rw [List.getD_eq_getElem?_getD, List.getElem?_take, if_pos hj, List.getElem?_drop, List.getD_eq_getElem?_getD, hi]
/-- Behind a text, the byte 128 and j zeros. -/
def LB (s : ByteArray) (j : Nat) : List UInt8 := s.data.toList ++ (128 :: List.replicate j 0)
def LC (s : ByteArray) (k : Nat) : List UInt8 := LB s ((119 - s.size % 64) % 64) ++ (List.range k).map (tb (lb s.size))
theorem bv_snoc (l : List UInt8) (c : UInt8) : (bv l).toList ++ [Value.int .u8 (c.toNat : Int)] = (bv (l ++ [c])).toList := by rw [← bv_app]; rfl
theorem lb_start (s : ByteArray) : (bv s.data.toList).toList ++ [Value.int .u8 128] = (bv (LB s 0)).toList := bv_snoc s.data.toList 128
theorem lb_step (s : ByteArray) (j : Nat) : (bv (LB s j)).toList ++ [Value.int .u8 0] = (bv (LB s (j + 1))).toList := by
  have := bv_snoc (LB s j) 0
  rw [show LB s (j + 1) = LB s j ++ [0] by unfold LB; rw [List.replicate_succ', ← List.cons_append, ← List.append_assoc]]
  exact this
theorem lc_start (s : ByteArray) : LB s ((119 - s.size % 64) % 64) = LC s 0 := by unfold LC; simp
theorem lc_step (s : ByteArray) {k : Nat} (hk : k < 8) {x : Int} (hx : x = ((lb s.size : Int) / ((2 ^ (8 * ((7 : Int) - (k : Int))).toNat : Nat) : Int)) % 256) : (bv (LC s k)).toList ++ [Value.int .u8 x] = (bv (LC s (k + 1))).toList := by
  have e : x = ((UInt8.ofNat (lb s.size / 2 ^ (56 - 8 * k))).toNat : Int) := by
    rw [hx, show (8 * ((7 : Int) - (k : Int))).toNat = 56 - 8 * k by omega]
    simp
  rw [e, bv_snoc]
  congr 2
  unfold LC tb
  rw [List.range_succ, List.map_append, List.append_assoc]; rfl
theorem lc_end (s : ByteArray) (hs : s.size < 18446744073709551616) : LC s 8 = s.data.toList ++ un8 (tailN s.size) := by
  unfold LC LB
  rw [un8_tail, Nat.mod_eq_of_lt hs]
  simp [tlr]
theorem mm_len (s : ByteArray) : (s.data.toList ++ un8 (tailN s.size)).length = s.size + 1 + (119 - s.size % 64) % 64 + 8 := by
  unfold un8 tailN
  rw [List.length_append, List.length_map, List.length_cons, List.length_append, List.length_replicate, List.length_map, List.length_range]
  have : s.data.toList.length = s.size := ba_len s
  omega
theorem wn_eq2 (y x7 x x16 : Nat) : ((((((x16 : Int) + (wlow x : Int)) % 4294967296) + (x7 : Int)) % 4294967296) + (whigh y : Int)) % 4294967296 = ((wn4 y x7 x x16 : Nat) : Int) := by unfold wn4; omega
theorem compl32 {e : Nat} (he : e < 2 ^ 32) : ((4294967295 - (e : Int)) % 4294967296).toNat = 4294967295 ^^^ e := by
  rw [show ((4294967295 - (e : Int)) % 4294967296).toNat = 2 ^ 32 - (e + 1) by omega, show (4294967295 : Nat) = 2 ^ 32 - 1 from rfl]
  apply Nat.eq_of_testBit_eq
  intro i
  rw [Nat.testBit_two_pow_sub_succ he, Nat.testBit_xor, Nat.testBit_two_pow_sub_one]
  by_cases h : i < 32
  · simp [h]
  · have : Nat.testBit e i = false := Nat.testBit_lt_two_pow (Nat.lt_of_lt_of_le he (Nat.pow_le_pow_right (by decide) (by omega)))
    simp [h, this]
theorem choi_eq2 {e : Nat} (he : e < 2 ^ 32) (f g : Nat) : (((((((e : Int)).toNat &&& ((f : Int)).toNat : Nat) : Int)).toNat ^^^ ((((((4294967295 - (e : Int)) % 4294967296)).toNat &&& ((g : Int)).toNat : Nat) : Int)).toNat : Nat) : Int) = ((choi e f g : Nat) : Int) := by
  unfold choi
  rw [compl32 he]; rfl
theorem wsum8 (hs vs : List Nat) {k : Nat} (hk : k < 8) (hh : hs.length = 8) : (wv (sm hs vs k)).setIfInBounds k (.int .u32 (((rg (sm hs vs k) k : Int) + (rg vs k : Int)) % 4294967296)) = wv (sm hs vs (k + 1)) := by
  rw [wv_set (by omega), add32, Int.toNat_natCast]; rfl
theorem vrow (hs : List Nat) (bl : List UInt8) (t : Nat) : (#[.int .u32 (((frst (rg Kc t) (rg (row bl 64) t) (rv hs bl t) : Int) + (scnd (rv hs bl t) : Int)) % 4294967296), .int .u32 ((rv hs bl t).a : Int), .int .u32 ((rv hs bl t).b : Int), .int .u32 ((rv hs bl t).c : Int), .int .u32 ((((rv hs bl t).d : Int) + (frst (rg Kc t) (rg (row bl 64) t) (rv hs bl t) : Int)) % 4294967296), .int .u32 ((rv hs bl t).e : Int), .int .u32 ((rv hs bl t).f : Int), .int .u32 ((rv hs bl t).g : Int)] : Array Value) = wv (w8l (rv hs bl (t + 1))) := by
  rw [rv_a, rv_e]; rfl
theorem dsz2 (hs : List Nat) {k : Nat} (h : k ≤ 8) : (bv (dgr hs k)).size = 32 := (bv_size _).trans (dgr_len h)
theorem mo_byte {w0 w : World} {M : List Nat} {R O : List (Nat × Obj)} (h : HP w0 M R O w) {mo : MO} {e : TypeId} {l : List UInt8} (hm : (mo.b, Obj.cells ((bv l).toList ++ mo.junk).toArray e mo.fr) ∈ O) {i j q : Nat} (hl : i < l.length) (hj : j < 64) (hi : i = 64 * q + j) :
    w.cell? ⟨mo.b, i, none⟩ = some (.int .u8 ((bt4 (ck l q) j : Nat) : Int)) := by
  rw [cell_cells (h.own _ hm), ck_get hj hi]
  simp only [List.getElem?_toArray]
  rw [List.getElem?_append_left (by rw [bv_len]; exact hl), Array.getElem?_toList]
  exact bv_get (n := l.length) rfl hl

set_option maxRecDepth 100000 in
theorem rRotr7 (x : Nat) (w : World) (hx : x < 2 ^ 32) :
    Calls Tryd.prog 27 #[.int .u32 (x : Int), .int .i64 7] w fun e w' => e = .returned (.int .u32 (rotl x 33554432 128 : Int)) ∧ Ext [] w w' := by
  refine enter (vs := [.int .u32 (x : Int), .int .i64 7]) [] [] [] Tryd.func27 rfl (by kernel_rfl) (HP.start w) ?_
  refine Cfg.reg rfl [0, 1] [] (Γ' := [(0, [], .int .u32 (x : Int)), (1, [], .int .i64 7)]) (nd := (fun _ => [])) (fun _ => by kernel_rfl) trivial ?_
  refine Cfg.regD rfl (by kernel_rfl) [4] [] (Γ' := [(4, [], .int .u32 (((((x : Int) / 128)).toNat ||| ((((x : Int) * 33554432) % 4294967296)).toNat : Nat) : Int))]) (nd := (fun _ => [(0 ≤ (7 : Int) ∧ 7 ≤ 32), ((-9223372036854775808 : Int) ≤ (25 : Int) ∧ (25 : Int) ≤ 9223372036854775807), (0 ≤ (25 : Int) ∧ 25 ≤ 32), ((0 ≤ ((x : Int) / 128) ∧ ((x : Int) / 128) ≤ 4294967295) ∧ 0 ≤ (((x : Int) * 33554432) % 4294967296) ∧ (((x : Int) * 33554432) % 4294967296) ≤ 4294967295)])) (by kernel_rfl) (by kernel_rfl) (fun _ => by kernel_rfl) ⟨(by omega), (by omega), (by omega), (by omega), trivial⟩ ?_
  refine Cfg.ret rfl (rs := [.tmp 4]) rfl [.int .u32 (((((x : Int) / 128)).toNat ||| ((((x : Int) * 33554432) % 4294967296)).toNat : Nat) : Int)] ⟨by kernel_rfl, trivial⟩ (fun w1 hp => ?_)
  refine ⟨?_, hp.ext⟩
  rw [← rotr_or, show x * 33554432 % 4294967296 = ((x : Int) * 33554432 % 4294967296).toNat by omega, show x / 128 = ((x : Int) / 128).toNat by omega]
  rfl

set_option maxRecDepth 100000 in
theorem rRotr18 (x : Nat) (w : World) (hx : x < 2 ^ 32) :
    Calls Tryd.prog 27 #[.int .u32 (x : Int), .int .i64 18] w fun e w' => e = .returned (.int .u32 (rotl x 16384 262144 : Int)) ∧ Ext [] w w' := by
  refine enter (vs := [.int .u32 (x : Int), .int .i64 18]) [] [] [] Tryd.func27 rfl (by kernel_rfl) (HP.start w) ?_
  refine Cfg.reg rfl [0, 1] [] (Γ' := [(0, [], .int .u32 (x : Int)), (1, [], .int .i64 18)]) (nd := (fun _ => [])) (fun _ => by kernel_rfl) trivial ?_
  refine Cfg.regD rfl (by kernel_rfl) [4] [] (Γ' := [(4, [], .int .u32 (((((x : Int) / 262144)).toNat ||| ((((x : Int) * 16384) % 4294967296)).toNat : Nat) : Int))]) (nd := (fun _ => [(0 ≤ (18 : Int) ∧ 18 ≤ 32), ((-9223372036854775808 : Int) ≤ (14 : Int) ∧ (14 : Int) ≤ 9223372036854775807), (0 ≤ (14 : Int) ∧ 14 ≤ 32), ((0 ≤ ((x : Int) / 262144) ∧ ((x : Int) / 262144) ≤ 4294967295) ∧ 0 ≤ (((x : Int) * 16384) % 4294967296) ∧ (((x : Int) * 16384) % 4294967296) ≤ 4294967295)])) (by kernel_rfl) (by kernel_rfl) (fun _ => by kernel_rfl) ⟨(by omega), (by omega), (by omega), (by omega), trivial⟩ ?_
  refine Cfg.ret rfl (rs := [.tmp 4]) rfl [.int .u32 (((((x : Int) / 262144)).toNat ||| ((((x : Int) * 16384) % 4294967296)).toNat : Nat) : Int)] ⟨by kernel_rfl, trivial⟩ (fun w1 hp => ?_)
  refine ⟨?_, hp.ext⟩
  rw [← rotr_or, show x * 16384 % 4294967296 = ((x : Int) * 16384 % 4294967296).toNat by omega, show x / 262144 = ((x : Int) / 262144).toNat by omega]
  rfl

set_option maxRecDepth 100000 in
theorem rRotr17 (x : Nat) (w : World) (hx : x < 2 ^ 32) :
    Calls Tryd.prog 27 #[.int .u32 (x : Int), .int .i64 17] w fun e w' => e = .returned (.int .u32 (rotl x 32768 131072 : Int)) ∧ Ext [] w w' := by
  refine enter (vs := [.int .u32 (x : Int), .int .i64 17]) [] [] [] Tryd.func27 rfl (by kernel_rfl) (HP.start w) ?_
  refine Cfg.reg rfl [0, 1] [] (Γ' := [(0, [], .int .u32 (x : Int)), (1, [], .int .i64 17)]) (nd := (fun _ => [])) (fun _ => by kernel_rfl) trivial ?_
  refine Cfg.regD rfl (by kernel_rfl) [4] [] (Γ' := [(4, [], .int .u32 (((((x : Int) / 131072)).toNat ||| ((((x : Int) * 32768) % 4294967296)).toNat : Nat) : Int))]) (nd := (fun _ => [(0 ≤ (17 : Int) ∧ 17 ≤ 32), ((-9223372036854775808 : Int) ≤ (15 : Int) ∧ (15 : Int) ≤ 9223372036854775807), (0 ≤ (15 : Int) ∧ 15 ≤ 32), ((0 ≤ ((x : Int) / 131072) ∧ ((x : Int) / 131072) ≤ 4294967295) ∧ 0 ≤ (((x : Int) * 32768) % 4294967296) ∧ (((x : Int) * 32768) % 4294967296) ≤ 4294967295)])) (by kernel_rfl) (by kernel_rfl) (fun _ => by kernel_rfl) ⟨(by omega), (by omega), (by omega), (by omega), trivial⟩ ?_
  refine Cfg.ret rfl (rs := [.tmp 4]) rfl [.int .u32 (((((x : Int) / 131072)).toNat ||| ((((x : Int) * 32768) % 4294967296)).toNat : Nat) : Int)] ⟨by kernel_rfl, trivial⟩ (fun w1 hp => ?_)
  refine ⟨?_, hp.ext⟩
  rw [← rotr_or, show x * 32768 % 4294967296 = ((x : Int) * 32768 % 4294967296).toNat by omega, show x / 131072 = ((x : Int) / 131072).toNat by omega]
  rfl

set_option maxRecDepth 100000 in
theorem rRotr19 (x : Nat) (w : World) (hx : x < 2 ^ 32) :
    Calls Tryd.prog 27 #[.int .u32 (x : Int), .int .i64 19] w fun e w' => e = .returned (.int .u32 (rotl x 8192 524288 : Int)) ∧ Ext [] w w' := by
  refine enter (vs := [.int .u32 (x : Int), .int .i64 19]) [] [] [] Tryd.func27 rfl (by kernel_rfl) (HP.start w) ?_
  refine Cfg.reg rfl [0, 1] [] (Γ' := [(0, [], .int .u32 (x : Int)), (1, [], .int .i64 19)]) (nd := (fun _ => [])) (fun _ => by kernel_rfl) trivial ?_
  refine Cfg.regD rfl (by kernel_rfl) [4] [] (Γ' := [(4, [], .int .u32 (((((x : Int) / 524288)).toNat ||| ((((x : Int) * 8192) % 4294967296)).toNat : Nat) : Int))]) (nd := (fun _ => [(0 ≤ (19 : Int) ∧ 19 ≤ 32), ((-9223372036854775808 : Int) ≤ (13 : Int) ∧ (13 : Int) ≤ 9223372036854775807), (0 ≤ (13 : Int) ∧ 13 ≤ 32), ((0 ≤ ((x : Int) / 524288) ∧ ((x : Int) / 524288) ≤ 4294967295) ∧ 0 ≤ (((x : Int) * 8192) % 4294967296) ∧ (((x : Int) * 8192) % 4294967296) ≤ 4294967295)])) (by kernel_rfl) (by kernel_rfl) (fun _ => by kernel_rfl) ⟨(by omega), (by omega), (by omega), (by omega), trivial⟩ ?_
  refine Cfg.ret rfl (rs := [.tmp 4]) rfl [.int .u32 (((((x : Int) / 524288)).toNat ||| ((((x : Int) * 8192) % 4294967296)).toNat : Nat) : Int)] ⟨by kernel_rfl, trivial⟩ (fun w1 hp => ?_)
  refine ⟨?_, hp.ext⟩
  rw [← rotr_or, show x * 8192 % 4294967296 = ((x : Int) * 8192 % 4294967296).toNat by omega, show x / 524288 = ((x : Int) / 524288).toNat by omega]
  rfl

set_option maxRecDepth 100000 in
theorem rRotr6 (x : Nat) (w : World) (hx : x < 2 ^ 32) :
    Calls Tryd.prog 27 #[.int .u32 (x : Int), .int .i64 6] w fun e w' => e = .returned (.int .u32 (rotl x 67108864 64 : Int)) ∧ Ext [] w w' := by
  refine enter (vs := [.int .u32 (x : Int), .int .i64 6]) [] [] [] Tryd.func27 rfl (by kernel_rfl) (HP.start w) ?_
  refine Cfg.reg rfl [0, 1] [] (Γ' := [(0, [], .int .u32 (x : Int)), (1, [], .int .i64 6)]) (nd := (fun _ => [])) (fun _ => by kernel_rfl) trivial ?_
  refine Cfg.regD rfl (by kernel_rfl) [4] [] (Γ' := [(4, [], .int .u32 (((((x : Int) / 64)).toNat ||| ((((x : Int) * 67108864) % 4294967296)).toNat : Nat) : Int))]) (nd := (fun _ => [(0 ≤ (6 : Int) ∧ 6 ≤ 32), ((-9223372036854775808 : Int) ≤ (26 : Int) ∧ (26 : Int) ≤ 9223372036854775807), (0 ≤ (26 : Int) ∧ 26 ≤ 32), ((0 ≤ ((x : Int) / 64) ∧ ((x : Int) / 64) ≤ 4294967295) ∧ 0 ≤ (((x : Int) * 67108864) % 4294967296) ∧ (((x : Int) * 67108864) % 4294967296) ≤ 4294967295)])) (by kernel_rfl) (by kernel_rfl) (fun _ => by kernel_rfl) ⟨(by omega), (by omega), (by omega), (by omega), trivial⟩ ?_
  refine Cfg.ret rfl (rs := [.tmp 4]) rfl [.int .u32 (((((x : Int) / 64)).toNat ||| ((((x : Int) * 67108864) % 4294967296)).toNat : Nat) : Int)] ⟨by kernel_rfl, trivial⟩ (fun w1 hp => ?_)
  refine ⟨?_, hp.ext⟩
  rw [← rotr_or, show x * 67108864 % 4294967296 = ((x : Int) * 67108864 % 4294967296).toNat by omega, show x / 64 = ((x : Int) / 64).toNat by omega]
  rfl

set_option maxRecDepth 100000 in
theorem rRotr11 (x : Nat) (w : World) (hx : x < 2 ^ 32) :
    Calls Tryd.prog 27 #[.int .u32 (x : Int), .int .i64 11] w fun e w' => e = .returned (.int .u32 (rotl x 2097152 2048 : Int)) ∧ Ext [] w w' := by
  refine enter (vs := [.int .u32 (x : Int), .int .i64 11]) [] [] [] Tryd.func27 rfl (by kernel_rfl) (HP.start w) ?_
  refine Cfg.reg rfl [0, 1] [] (Γ' := [(0, [], .int .u32 (x : Int)), (1, [], .int .i64 11)]) (nd := (fun _ => [])) (fun _ => by kernel_rfl) trivial ?_
  refine Cfg.regD rfl (by kernel_rfl) [4] [] (Γ' := [(4, [], .int .u32 (((((x : Int) / 2048)).toNat ||| ((((x : Int) * 2097152) % 4294967296)).toNat : Nat) : Int))]) (nd := (fun _ => [(0 ≤ (11 : Int) ∧ 11 ≤ 32), ((-9223372036854775808 : Int) ≤ (21 : Int) ∧ (21 : Int) ≤ 9223372036854775807), (0 ≤ (21 : Int) ∧ 21 ≤ 32), ((0 ≤ ((x : Int) / 2048) ∧ ((x : Int) / 2048) ≤ 4294967295) ∧ 0 ≤ (((x : Int) * 2097152) % 4294967296) ∧ (((x : Int) * 2097152) % 4294967296) ≤ 4294967295)])) (by kernel_rfl) (by kernel_rfl) (fun _ => by kernel_rfl) ⟨(by omega), (by omega), (by omega), (by omega), trivial⟩ ?_
  refine Cfg.ret rfl (rs := [.tmp 4]) rfl [.int .u32 (((((x : Int) / 2048)).toNat ||| ((((x : Int) * 2097152) % 4294967296)).toNat : Nat) : Int)] ⟨by kernel_rfl, trivial⟩ (fun w1 hp => ?_)
  refine ⟨?_, hp.ext⟩
  rw [← rotr_or, show x * 2097152 % 4294967296 = ((x : Int) * 2097152 % 4294967296).toNat by omega, show x / 2048 = ((x : Int) / 2048).toNat by omega]
  rfl

set_option maxRecDepth 100000 in
theorem rRotr25 (x : Nat) (w : World) (hx : x < 2 ^ 32) :
    Calls Tryd.prog 27 #[.int .u32 (x : Int), .int .i64 25] w fun e w' => e = .returned (.int .u32 (rotl x 128 33554432 : Int)) ∧ Ext [] w w' := by
  refine enter (vs := [.int .u32 (x : Int), .int .i64 25]) [] [] [] Tryd.func27 rfl (by kernel_rfl) (HP.start w) ?_
  refine Cfg.reg rfl [0, 1] [] (Γ' := [(0, [], .int .u32 (x : Int)), (1, [], .int .i64 25)]) (nd := (fun _ => [])) (fun _ => by kernel_rfl) trivial ?_
  refine Cfg.regD rfl (by kernel_rfl) [4] [] (Γ' := [(4, [], .int .u32 (((((x : Int) / 33554432)).toNat ||| ((((x : Int) * 128) % 4294967296)).toNat : Nat) : Int))]) (nd := (fun _ => [(0 ≤ (25 : Int) ∧ 25 ≤ 32), ((-9223372036854775808 : Int) ≤ (7 : Int) ∧ (7 : Int) ≤ 9223372036854775807), (0 ≤ (7 : Int) ∧ 7 ≤ 32), ((0 ≤ ((x : Int) / 33554432) ∧ ((x : Int) / 33554432) ≤ 4294967295) ∧ 0 ≤ (((x : Int) * 128) % 4294967296) ∧ (((x : Int) * 128) % 4294967296) ≤ 4294967295)])) (by kernel_rfl) (by kernel_rfl) (fun _ => by kernel_rfl) ⟨(by omega), (by omega), (by omega), (by omega), trivial⟩ ?_
  refine Cfg.ret rfl (rs := [.tmp 4]) rfl [.int .u32 (((((x : Int) / 33554432)).toNat ||| ((((x : Int) * 128) % 4294967296)).toNat : Nat) : Int)] ⟨by kernel_rfl, trivial⟩ (fun w1 hp => ?_)
  refine ⟨?_, hp.ext⟩
  rw [← rotr_or, show x * 128 % 4294967296 = ((x : Int) * 128 % 4294967296).toNat by omega, show x / 33554432 = ((x : Int) / 33554432).toNat by omega]
  rfl

set_option maxRecDepth 100000 in
theorem rRotr2 (x : Nat) (w : World) (hx : x < 2 ^ 32) :
    Calls Tryd.prog 27 #[.int .u32 (x : Int), .int .i64 2] w fun e w' => e = .returned (.int .u32 (rotl x 1073741824 4 : Int)) ∧ Ext [] w w' := by
  refine enter (vs := [.int .u32 (x : Int), .int .i64 2]) [] [] [] Tryd.func27 rfl (by kernel_rfl) (HP.start w) ?_
  refine Cfg.reg rfl [0, 1] [] (Γ' := [(0, [], .int .u32 (x : Int)), (1, [], .int .i64 2)]) (nd := (fun _ => [])) (fun _ => by kernel_rfl) trivial ?_
  refine Cfg.regD rfl (by kernel_rfl) [4] [] (Γ' := [(4, [], .int .u32 (((((x : Int) / 4)).toNat ||| ((((x : Int) * 1073741824) % 4294967296)).toNat : Nat) : Int))]) (nd := (fun _ => [(0 ≤ (2 : Int) ∧ 2 ≤ 32), ((-9223372036854775808 : Int) ≤ (30 : Int) ∧ (30 : Int) ≤ 9223372036854775807), (0 ≤ (30 : Int) ∧ 30 ≤ 32), ((0 ≤ ((x : Int) / 4) ∧ ((x : Int) / 4) ≤ 4294967295) ∧ 0 ≤ (((x : Int) * 1073741824) % 4294967296) ∧ (((x : Int) * 1073741824) % 4294967296) ≤ 4294967295)])) (by kernel_rfl) (by kernel_rfl) (fun _ => by kernel_rfl) ⟨(by omega), (by omega), (by omega), (by omega), trivial⟩ ?_
  refine Cfg.ret rfl (rs := [.tmp 4]) rfl [.int .u32 (((((x : Int) / 4)).toNat ||| ((((x : Int) * 1073741824) % 4294967296)).toNat : Nat) : Int)] ⟨by kernel_rfl, trivial⟩ (fun w1 hp => ?_)
  refine ⟨?_, hp.ext⟩
  rw [← rotr_or, show x * 1073741824 % 4294967296 = ((x : Int) * 1073741824 % 4294967296).toNat by omega, show x / 4 = ((x : Int) / 4).toNat by omega]
  rfl

set_option maxRecDepth 100000 in
theorem rRotr13 (x : Nat) (w : World) (hx : x < 2 ^ 32) :
    Calls Tryd.prog 27 #[.int .u32 (x : Int), .int .i64 13] w fun e w' => e = .returned (.int .u32 (rotl x 524288 8192 : Int)) ∧ Ext [] w w' := by
  refine enter (vs := [.int .u32 (x : Int), .int .i64 13]) [] [] [] Tryd.func27 rfl (by kernel_rfl) (HP.start w) ?_
  refine Cfg.reg rfl [0, 1] [] (Γ' := [(0, [], .int .u32 (x : Int)), (1, [], .int .i64 13)]) (nd := (fun _ => [])) (fun _ => by kernel_rfl) trivial ?_
  refine Cfg.regD rfl (by kernel_rfl) [4] [] (Γ' := [(4, [], .int .u32 (((((x : Int) / 8192)).toNat ||| ((((x : Int) * 524288) % 4294967296)).toNat : Nat) : Int))]) (nd := (fun _ => [(0 ≤ (13 : Int) ∧ 13 ≤ 32), ((-9223372036854775808 : Int) ≤ (19 : Int) ∧ (19 : Int) ≤ 9223372036854775807), (0 ≤ (19 : Int) ∧ 19 ≤ 32), ((0 ≤ ((x : Int) / 8192) ∧ ((x : Int) / 8192) ≤ 4294967295) ∧ 0 ≤ (((x : Int) * 524288) % 4294967296) ∧ (((x : Int) * 524288) % 4294967296) ≤ 4294967295)])) (by kernel_rfl) (by kernel_rfl) (fun _ => by kernel_rfl) ⟨(by omega), (by omega), (by omega), (by omega), trivial⟩ ?_
  refine Cfg.ret rfl (rs := [.tmp 4]) rfl [.int .u32 (((((x : Int) / 8192)).toNat ||| ((((x : Int) * 524288) % 4294967296)).toNat : Nat) : Int)] ⟨by kernel_rfl, trivial⟩ (fun w1 hp => ?_)
  refine ⟨?_, hp.ext⟩
  rw [← rotr_or, show x * 524288 % 4294967296 = ((x : Int) * 524288 % 4294967296).toNat by omega, show x / 8192 = ((x : Int) / 8192).toNat by omega]
  rfl

set_option maxRecDepth 100000 in
theorem rRotr22 (x : Nat) (w : World) (hx : x < 2 ^ 32) :
    Calls Tryd.prog 27 #[.int .u32 (x : Int), .int .i64 22] w fun e w' => e = .returned (.int .u32 (rotl x 1024 4194304 : Int)) ∧ Ext [] w w' := by
  refine enter (vs := [.int .u32 (x : Int), .int .i64 22]) [] [] [] Tryd.func27 rfl (by kernel_rfl) (HP.start w) ?_
  refine Cfg.reg rfl [0, 1] [] (Γ' := [(0, [], .int .u32 (x : Int)), (1, [], .int .i64 22)]) (nd := (fun _ => [])) (fun _ => by kernel_rfl) trivial ?_
  refine Cfg.regD rfl (by kernel_rfl) [4] [] (Γ' := [(4, [], .int .u32 (((((x : Int) / 4194304)).toNat ||| ((((x : Int) * 1024) % 4294967296)).toNat : Nat) : Int))]) (nd := (fun _ => [(0 ≤ (22 : Int) ∧ 22 ≤ 32), ((-9223372036854775808 : Int) ≤ (10 : Int) ∧ (10 : Int) ≤ 9223372036854775807), (0 ≤ (10 : Int) ∧ 10 ≤ 32), ((0 ≤ ((x : Int) / 4194304) ∧ ((x : Int) / 4194304) ≤ 4294967295) ∧ 0 ≤ (((x : Int) * 1024) % 4294967296) ∧ (((x : Int) * 1024) % 4294967296) ≤ 4294967295)])) (by kernel_rfl) (by kernel_rfl) (fun _ => by kernel_rfl) ⟨(by omega), (by omega), (by omega), (by omega), trivial⟩ ?_
  refine Cfg.ret rfl (rs := [.tmp 4]) rfl [.int .u32 (((((x : Int) / 4194304)).toNat ||| ((((x : Int) * 1024) % 4294967296)).toNat : Nat) : Int)] ⟨by kernel_rfl, trivial⟩ (fun w1 hp => ?_)
  refine ⟨?_, hp.ext⟩
  rw [← rotr_or, show x * 1024 % 4294967296 = ((x : Int) * 1024 % 4294967296).toNat by omega, show x / 4194304 = ((x : Int) / 4194304).toNat by omega]
  rfl

set_option maxRecDepth 100000 in
theorem rK (w : World) :
    Calls Tryd.prog 26 #[] w fun e w' => ∃ b : Nat, True ∧ e = .returned (.slice (some ⟨b, 0, none⟩) 64 64) ∧ w.heap.size ≤ b ∧ w'.heap[b]? = some (.cells (wv Kc) 61 (0, 0)) ∧ Ext [] w w' := by
  refine enter (vs := []) [] [] [] Tryd.func26 rfl (by kernel_rfl) (HP.start w) ?_
  refine Cfg.reg rfl [] [] (Γ' := []) (nd := (fun _ => [])) (fun _ => by kernel_rfl) trivial ?_
  refine Cfg.begL rfl ?_
  refine CfgL.eff (o := _) rfl (by kernel_rfl) (by kernel_rfl) (Eff.buildSlice (e := 61) (cells := (wv Kc)) (parts := #[(0, .int .u32 1116352408), (1, .int .u32 1899447441), (2, .int .u32 3049323471), (3, .int .u32 3921009573), (4, .int .u32 961987163), (5, .int .u32 1508970993), (6, .int .u32 2453635748), (7, .int .u32 2870763221), (8, .int .u32 3624381080), (9, .int .u32 310598401), (10, .int .u32 607225278), (11, .int .u32 1426881987), (12, .int .u32 1925078388), (13, .int .u32 2162078206), (14, .int .u32 2614888103), (15, .int .u32 3248222580), (16, .int .u32 3835390401), (17, .int .u32 4022224774), (18, .int .u32 264347078), (19, .int .u32 604807628), (20, .int .u32 770255983), (21, .int .u32 1249150122), (22, .int .u32 1555081692), (23, .int .u32 1996064986), (24, .int .u32 2554220882), (25, .int .u32 2821834349), (26, .int .u32 2952996808), (27, .int .u32 3210313671), (28, .int .u32 3336571891), (29, .int .u32 3584528711), (30, .int .u32 113926993), (31, .int .u32 338241895), (32, .int .u32 666307205), (33, .int .u32 773529912), (34, .int .u32 1294757372), (35, .int .u32 1396182291), (36, .int .u32 1695183700), (37, .int .u32 1986661051), (38, .int .u32 2177026350), (39, .int .u32 2456956037), (40, .int .u32 2730485921), (41, .int .u32 2820302411), (42, .int .u32 3259730800), (43, .int .u32 3345764771), (44, .int .u32 3516065817), (45, .int .u32 3600352804), (46, .int .u32 4094571909), (47, .int .u32 275423344), (48, .int .u32 430227734), (49, .int .u32 506948616), (50, .int .u32 659060556), (51, .int .u32 883997877), (52, .int .u32 958139571), (53, .int .u32 1322822218), (54, .int .u32 1537002063), (55, .int .u32 1747873779), (56, .int .u32 1955562222), (57, .int .u32 2024104815), (58, .int .u32 2227730452), (59, .int .u32 2361852424), (60, .int .u32 2428436474), (61, .int .u32 2756734187), (62, .int .u32 3204031479), (63, .int .u32 3329325298)]) rfl (by kernel_rfl) (fun _ => by kernel_rfl)) ?_
  rintro b ⟨hb, nb⟩
  refine CfgL.pure 1 [] (some [0]) (Γ' := [(0, [], .slice (some ⟨b, 0, none⟩) 64 64)]) (nd := (fun _ => [])) (by kernel_rfl) (fun _ => by kernel_rfl) trivial ?_
  refine CfgL.done rfl ?_
  refine Cfg.ret rfl (rs := [.tmp 0]) rfl [.slice (some ⟨b, 0, none⟩) 64 64] ⟨by kernel_rfl, trivial⟩ (fun w1 hp => ?_)
  exact ⟨b, trivial, rfl, hb, hp.own (b, _) (List.mem_cons_self ..), hp.ext⟩

end Go.Proofs.YtphnkangpboplaaDoor
