/- Texts on which the proof of this claim stands: Sha6, Hex, ShaA, Ex12, K30, K44, Lnk. -/
import Derived.Test.YtbeeelgfhfmgbaaGreatDoorRows
import Derived.Test.YtbeeelgfhfmgbaaGreatDoorP1
import Derived.Test.YtbeeelgfhfmgbaaGreatDoorP7
import Derived.Test.YtbeeelgfhfmgbaaGreatDoorP8
set_option maxRecDepth 100000
namespace Go.Proofs.YtbeeelgfhfmgbaaGreatDoor
open K
set_option linter.unusedVariables false
theorem le_pow {b n : Nat} (h : n < 2 ^ b) : (n : Int) ≤ ((2 ^ b - 1 : Nat) : Int) := by omega
theorem tn_lt {x b : Nat} (h : x < 2 ^ b) : ((x : Int)).toNat < 2 ^ b := by rw [Int.toNat_natCast]; exact h
def rotl (x a b : Nat) : Nat := (x * a % 4294967296) ||| (x / b)
theorem rotl_lt {x a b : Nat} (h : x < 2 ^ 32) : rotl x a b < 2 ^ 32 :=
 Nat.or_lt_two_pow (Nat.mod_lt _ (by decide)) (Nat.lt_of_le_of_lt (Nat.div_le_self _ _) h)
theorem rot25 (x : Nat) (w : World) (hx : x < 2 ^ 32) :
  Calls Tryz.prog 102 #[.int .u32 (x : Int),.int .i64 (-7)] w fun e w' => e = .returned (.int .u32 (rotl x 33554432 128 : Int)) ∧ Ext [] w w' := by
 refine enter [] [] [] Tryz.func102 rfl kr (HP.start w) ?_
 refine Rq [0,1] ?_
 refine Rg [0,5] [] (fun _ => [((0 ≤ (18446744073709551609 : Int) ∧ (18446744073709551609 : Int) ≤ 18446744073709551615) ∧ 0 ≤ (31 : Int) ∧ (31 : Int) ≤ 18446744073709551615)]) ⟨om,trivial⟩ ?_
 refine Rg [4] [] (fun _ => [(0 ≤ (25 : Int) ∧ 25 ≤ 32),(0 ≤ (7 : Int) ∧ 7 ≤ 32),((0 ≤ (((x : Int) * 33554432) % 4294967296) ∧ (((x : Int) * 33554432) % 4294967296) ≤ 4294967295) ∧ 0 ≤ ((x : Int) / 128) ∧ ((x : Int) / 128) ≤ 4294967295)]) ⟨om,om,om,trivial⟩ ?_
 refine Cfg.ret rfl (rs := [.tmp 4]) rfl [uN (((((x : Int) * 33554432) % 4294967296)).toNat ||| (((x : Int) / 128)).toNat)] ⟨kr,trivial⟩ (fun w1 hp => ?_)
 refine ⟨?_,hp.ext⟩
 unfold rotl
 rw [show x * 33554432 % 4294967296 = ((x : Int) * 33554432 % 4294967296).toNat by omega,show x / 128 = ((x : Int) / 128).toNat by omega]
 rfl
theorem rot14 (x : Nat) (w : World) (hx : x < 2 ^ 32) :
  Calls Tryz.prog 102 #[.int .u32 (x : Int),.int .i64 (-18)] w fun e w' => e = .returned (.int .u32 (rotl x 16384 262144 : Int)) ∧ Ext [] w w' := by
 refine enter [] [] [] Tryz.func102 rfl kr (HP.start w) ?_
 refine Rq [0,1] ?_
 refine Rg [0,5] [] (fun _ => [((0 ≤ (18446744073709551598 : Int) ∧ (18446744073709551598 : Int) ≤ 18446744073709551615) ∧ 0 ≤ (31 : Int) ∧ (31 : Int) ≤ 18446744073709551615)]) ⟨om,trivial⟩ ?_
 refine Rg [4] [] (fun _ => [(0 ≤ (14 : Int) ∧ 14 ≤ 32),(0 ≤ (18 : Int) ∧ 18 ≤ 32),((0 ≤ (((x : Int) * 16384) % 4294967296) ∧ (((x : Int) * 16384) % 4294967296) ≤ 4294967295) ∧ 0 ≤ ((x : Int) / 262144) ∧ ((x : Int) / 262144) ≤ 4294967295)]) ⟨om,om,om,trivial⟩ ?_
 refine Cfg.ret rfl (rs := [.tmp 4]) rfl [uN (((((x : Int) * 16384) % 4294967296)).toNat ||| (((x : Int) / 262144)).toNat)] ⟨kr,trivial⟩ (fun w1 hp => ?_)
 refine ⟨?_,hp.ext⟩
 unfold rotl
 rw [show x * 16384 % 4294967296 = ((x : Int) * 16384 % 4294967296).toNat by omega,show x / 262144 = ((x : Int) / 262144).toNat by omega]
 rfl
theorem rot15 (x : Nat) (w : World) (hx : x < 2 ^ 32) :
  Calls Tryz.prog 102 #[.int .u32 (x : Int),.int .i64 (-17)] w fun e w' => e = .returned (.int .u32 (rotl x 32768 131072 : Int)) ∧ Ext [] w w' := by
 refine enter [] [] [] Tryz.func102 rfl kr (HP.start w) ?_
 refine Rq [0,1] ?_
 refine Rg [0,5] [] (fun _ => [((0 ≤ (18446744073709551599 : Int) ∧ (18446744073709551599 : Int) ≤ 18446744073709551615) ∧ 0 ≤ (31 : Int) ∧ (31 : Int) ≤ 18446744073709551615)]) ⟨om,trivial⟩ ?_
 refine Rg [4] [] (fun _ => [(0 ≤ (15 : Int) ∧ 15 ≤ 32),(0 ≤ (17 : Int) ∧ 17 ≤ 32),((0 ≤ (((x : Int) * 32768) % 4294967296) ∧ (((x : Int) * 32768) % 4294967296) ≤ 4294967295) ∧ 0 ≤ ((x : Int) / 131072) ∧ ((x : Int) / 131072) ≤ 4294967295)]) ⟨om,om,om,trivial⟩ ?_
 refine Cfg.ret rfl (rs := [.tmp 4]) rfl [uN (((((x : Int) * 32768) % 4294967296)).toNat ||| (((x : Int) / 131072)).toNat)] ⟨kr,trivial⟩ (fun w1 hp => ?_)
 refine ⟨?_,hp.ext⟩
 unfold rotl
 rw [show x * 32768 % 4294967296 = ((x : Int) * 32768 % 4294967296).toNat by omega,show x / 131072 = ((x : Int) / 131072).toNat by omega]
 rfl
theorem rot13 (x : Nat) (w : World) (hx : x < 2 ^ 32) :
  Calls Tryz.prog 102 #[.int .u32 (x : Int),.int .i64 (-19)] w fun e w' => e = .returned (.int .u32 (rotl x 8192 524288 : Int)) ∧ Ext [] w w' := by
 refine enter [] [] [] Tryz.func102 rfl kr (HP.start w) ?_
 refine Rq [0,1] ?_
 refine Rg [0,5] [] (fun _ => [((0 ≤ (18446744073709551597 : Int) ∧ (18446744073709551597 : Int) ≤ 18446744073709551615) ∧ 0 ≤ (31 : Int) ∧ (31 : Int) ≤ 18446744073709551615)]) ⟨om,trivial⟩ ?_
 refine Rg [4] [] (fun _ => [(0 ≤ (13 : Int) ∧ 13 ≤ 32),(0 ≤ (19 : Int) ∧ 19 ≤ 32),((0 ≤ (((x : Int) * 8192) % 4294967296) ∧ (((x : Int) * 8192) % 4294967296) ≤ 4294967295) ∧ 0 ≤ ((x : Int) / 524288) ∧ ((x : Int) / 524288) ≤ 4294967295)]) ⟨om,om,om,trivial⟩ ?_
 refine Cfg.ret rfl (rs := [.tmp 4]) rfl [uN (((((x : Int) * 8192) % 4294967296)).toNat ||| (((x : Int) / 524288)).toNat)] ⟨kr,trivial⟩ (fun w1 hp => ?_)
 refine ⟨?_,hp.ext⟩
 unfold rotl
 rw [show x * 8192 % 4294967296 = ((x : Int) * 8192 % 4294967296).toNat by omega,show x / 524288 = ((x : Int) / 524288).toNat by omega]
 rfl
theorem rot26 (x : Nat) (w : World) (hx : x < 2 ^ 32) :
  Calls Tryz.prog 102 #[.int .u32 (x : Int),.int .i64 (-6)] w fun e w' => e = .returned (.int .u32 (rotl x 67108864 64 : Int)) ∧ Ext [] w w' := by
 refine enter [] [] [] Tryz.func102 rfl kr (HP.start w) ?_
 refine Rq [0,1] ?_
 refine Rg [0,5] [] (fun _ => [((0 ≤ (18446744073709551610 : Int) ∧ (18446744073709551610 : Int) ≤ 18446744073709551615) ∧ 0 ≤ (31 : Int) ∧ (31 : Int) ≤ 18446744073709551615)]) ⟨om,trivial⟩ ?_
 refine Rg [4] [] (fun _ => [(0 ≤ (26 : Int) ∧ 26 ≤ 32),(0 ≤ (6 : Int) ∧ 6 ≤ 32),((0 ≤ (((x : Int) * 67108864) % 4294967296) ∧ (((x : Int) * 67108864) % 4294967296) ≤ 4294967295) ∧ 0 ≤ ((x : Int) / 64) ∧ ((x : Int) / 64) ≤ 4294967295)]) ⟨om,om,om,trivial⟩ ?_
 refine Cfg.ret rfl (rs := [.tmp 4]) rfl [uN (((((x : Int) * 67108864) % 4294967296)).toNat ||| (((x : Int) / 64)).toNat)] ⟨kr,trivial⟩ (fun w1 hp => ?_)
 refine ⟨?_,hp.ext⟩
 unfold rotl
 rw [show x * 67108864 % 4294967296 = ((x : Int) * 67108864 % 4294967296).toNat by omega,show x / 64 = ((x : Int) / 64).toNat by omega]
 rfl
theorem rot21 (x : Nat) (w : World) (hx : x < 2 ^ 32) :
  Calls Tryz.prog 102 #[.int .u32 (x : Int),.int .i64 (-11)] w fun e w' => e = .returned (.int .u32 (rotl x 2097152 2048 : Int)) ∧ Ext [] w w' := by
 refine enter [] [] [] Tryz.func102 rfl kr (HP.start w) ?_
 refine Rq [0,1] ?_
 refine Rg [0,5] [] (fun _ => [((0 ≤ (18446744073709551605 : Int) ∧ (18446744073709551605 : Int) ≤ 18446744073709551615) ∧ 0 ≤ (31 : Int) ∧ (31 : Int) ≤ 18446744073709551615)]) ⟨om,trivial⟩ ?_
 refine Rg [4] [] (fun _ => [(0 ≤ (21 : Int) ∧ 21 ≤ 32),(0 ≤ (11 : Int) ∧ 11 ≤ 32),((0 ≤ (((x : Int) * 2097152) % 4294967296) ∧ (((x : Int) * 2097152) % 4294967296) ≤ 4294967295) ∧ 0 ≤ ((x : Int) / 2048) ∧ ((x : Int) / 2048) ≤ 4294967295)]) ⟨om,om,om,trivial⟩ ?_
 refine Cfg.ret rfl (rs := [.tmp 4]) rfl [uN (((((x : Int) * 2097152) % 4294967296)).toNat ||| (((x : Int) / 2048)).toNat)] ⟨kr,trivial⟩ (fun w1 hp => ?_)
 refine ⟨?_,hp.ext⟩
 unfold rotl
 rw [show x * 2097152 % 4294967296 = ((x : Int) * 2097152 % 4294967296).toNat by omega,show x / 2048 = ((x : Int) / 2048).toNat by omega]
 rfl
theorem rot7 (x : Nat) (w : World) (hx : x < 2 ^ 32) :
  Calls Tryz.prog 102 #[.int .u32 (x : Int),.int .i64 (-25)] w fun e w' => e = .returned (.int .u32 (rotl x 128 33554432 : Int)) ∧ Ext [] w w' := by
 refine enter [] [] [] Tryz.func102 rfl kr (HP.start w) ?_
 refine Rq [0,1] ?_
 refine Rg [0,5] [] (fun _ => [((0 ≤ (18446744073709551591 : Int) ∧ (18446744073709551591 : Int) ≤ 18446744073709551615) ∧ 0 ≤ (31 : Int) ∧ (31 : Int) ≤ 18446744073709551615)]) ⟨om,trivial⟩ ?_
 refine Rg [4] [] (fun _ => [(0 ≤ (7 : Int) ∧ 7 ≤ 32),(0 ≤ (25 : Int) ∧ 25 ≤ 32),((0 ≤ (((x : Int) * 128) % 4294967296) ∧ (((x : Int) * 128) % 4294967296) ≤ 4294967295) ∧ 0 ≤ ((x : Int) / 33554432) ∧ ((x : Int) / 33554432) ≤ 4294967295)]) ⟨om,om,om,trivial⟩ ?_
 refine Cfg.ret rfl (rs := [.tmp 4]) rfl [uN (((((x : Int) * 128) % 4294967296)).toNat ||| (((x : Int) / 33554432)).toNat)] ⟨kr,trivial⟩ (fun w1 hp => ?_)
 refine ⟨?_,hp.ext⟩
 unfold rotl
 rw [show x * 128 % 4294967296 = ((x : Int) * 128 % 4294967296).toNat by omega,show x / 33554432 = ((x : Int) / 33554432).toNat by omega]
 rfl
theorem rot30 (x : Nat) (w : World) (hx : x < 2 ^ 32) :
  Calls Tryz.prog 102 #[.int .u32 (x : Int),.int .i64 (-2)] w fun e w' => e = .returned (.int .u32 (rotl x 1073741824 4 : Int)) ∧ Ext [] w w' := by
 refine enter [] [] [] Tryz.func102 rfl kr (HP.start w) ?_
 refine Rq [0,1] ?_
 refine Rg [0,5] [] (fun _ => [((0 ≤ (18446744073709551614 : Int) ∧ (18446744073709551614 : Int) ≤ 18446744073709551615) ∧ 0 ≤ (31 : Int) ∧ (31 : Int) ≤ 18446744073709551615)]) ⟨om,trivial⟩ ?_
 refine Rg [4] [] (fun _ => [(0 ≤ (30 : Int) ∧ 30 ≤ 32),(0 ≤ (2 : Int) ∧ 2 ≤ 32),((0 ≤ (((x : Int) * 1073741824) % 4294967296) ∧ (((x : Int) * 1073741824) % 4294967296) ≤ 4294967295) ∧ 0 ≤ ((x : Int) / 4) ∧ ((x : Int) / 4) ≤ 4294967295)]) ⟨om,om,om,trivial⟩ ?_
 refine Cfg.ret rfl (rs := [.tmp 4]) rfl [uN (((((x : Int) * 1073741824) % 4294967296)).toNat ||| (((x : Int) / 4)).toNat)] ⟨kr,trivial⟩ (fun w1 hp => ?_)
 refine ⟨?_,hp.ext⟩
 unfold rotl
 rw [show x * 1073741824 % 4294967296 = ((x : Int) * 1073741824 % 4294967296).toNat by omega,show x / 4 = ((x : Int) / 4).toNat by omega]
 rfl
theorem rot19 (x : Nat) (w : World) (hx : x < 2 ^ 32) :
  Calls Tryz.prog 102 #[.int .u32 (x : Int),.int .i64 (-13)] w fun e w' => e = .returned (.int .u32 (rotl x 524288 8192 : Int)) ∧ Ext [] w w' := by
 refine enter [] [] [] Tryz.func102 rfl kr (HP.start w) ?_
 refine Rq [0,1] ?_
 refine Rg [0,5] [] (fun _ => [((0 ≤ (18446744073709551603 : Int) ∧ (18446744073709551603 : Int) ≤ 18446744073709551615) ∧ 0 ≤ (31 : Int) ∧ (31 : Int) ≤ 18446744073709551615)]) ⟨om,trivial⟩ ?_
 refine Rg [4] [] (fun _ => [(0 ≤ (19 : Int) ∧ 19 ≤ 32),(0 ≤ (13 : Int) ∧ 13 ≤ 32),((0 ≤ (((x : Int) * 524288) % 4294967296) ∧ (((x : Int) * 524288) % 4294967296) ≤ 4294967295) ∧ 0 ≤ ((x : Int) / 8192) ∧ ((x : Int) / 8192) ≤ 4294967295)]) ⟨om,om,om,trivial⟩ ?_
 refine Cfg.ret rfl (rs := [.tmp 4]) rfl [uN (((((x : Int) * 524288) % 4294967296)).toNat ||| (((x : Int) / 8192)).toNat)] ⟨kr,trivial⟩ (fun w1 hp => ?_)
 refine ⟨?_,hp.ext⟩
 unfold rotl
 rw [show x * 524288 % 4294967296 = ((x : Int) * 524288 % 4294967296).toNat by omega,show x / 8192 = ((x : Int) / 8192).toNat by omega]
 rfl
theorem rot10 (x : Nat) (w : World) (hx : x < 2 ^ 32) :
  Calls Tryz.prog 102 #[.int .u32 (x : Int),.int .i64 (-22)] w fun e w' => e = .returned (.int .u32 (rotl x 1024 4194304 : Int)) ∧ Ext [] w w' := by
 refine enter [] [] [] Tryz.func102 rfl kr (HP.start w) ?_
 refine Rq [0,1] ?_
 refine Rg [0,5] [] (fun _ => [((0 ≤ (18446744073709551594 : Int) ∧ (18446744073709551594 : Int) ≤ 18446744073709551615) ∧ 0 ≤ (31 : Int) ∧ (31 : Int) ≤ 18446744073709551615)]) ⟨om,trivial⟩ ?_
 refine Rg [4] [] (fun _ => [(0 ≤ (10 : Int) ∧ 10 ≤ 32),(0 ≤ (22 : Int) ∧ 22 ≤ 32),((0 ≤ (((x : Int) * 1024) % 4294967296) ∧ (((x : Int) * 1024) % 4294967296) ≤ 4294967295) ∧ 0 ≤ ((x : Int) / 4194304) ∧ ((x : Int) / 4194304) ≤ 4294967295)]) ⟨om,om,om,trivial⟩ ?_
 refine Cfg.ret rfl (rs := [.tmp 4]) rfl [uN (((((x : Int) * 1024) % 4294967296)).toNat ||| (((x : Int) / 4194304)).toNat)] ⟨kr,trivial⟩ (fun w1 hp => ?_)
 refine ⟨?_,hp.ext⟩
 unfold rotl
 rw [show x * 1024 % 4294967296 = ((x : Int) * 1024 % 4294967296).toNat by omega,show x / 4194304 = ((x : Int) / 4194304).toNat by omega]
 rfl
def stC (hs : List Nat) (bl : List UInt8) (held total : Nat) : Array Value := ((wv hs).toList ++ ((bv bl).toList ++ [Value.int .i64 (held : Int),Value.int .u64 (total : Int)])).toArray
theorem wlen {hs : List Nat} {n : Nat} (h : hs.length = n) : (wv hs).toList.length = n := by rw [Array.length_toList,wv_size,h]
theorem blen {hs : List UInt8} {n : Nat} (h : hs.length = n) : (bv hs).toList.length = n := by rw [Array.length_toList,bv_size,h]
section
variable {hs : List Nat} {bl : List UInt8} {held total : Nat}
theorem st_size (hh : hs.length = 8) (hb : bl.length = 64) : (stC hs bl held total).size = 74 := by
 have h1 := wlen hh; have h2 := blen hb
 simp only [stC,List.size_toArray,List.length_append,h1,h2]; rfl
theorem st_sum (hh : hs.length = 8) {k : Nat} (hk : k < 8) : (stC hs bl held total)[k]? = some (.int .u32 ((hs.getD k 0 : Nat) : Int)) := by
 have h1 := wv_get hh hk
 have h2 := wlen hh
 rw [← Array.getElem?_toList] at h1
 simp only [stC,List.getElem?_toArray]
 rw [List.getElem?_append_left om,h1]
theorem st_byte (hh : hs.length = 8) (hb : bl.length = 64) {j : Nat} (hj : j < 64) : (stC hs bl held total)[8 + j]? = some (.int .u8 ((bl.getD j 0).toNat : Int)) := by
 have h1 := bv_get hb hj
 have h2 := wlen hh; have h3 := blen hb
 rw [← Array.getElem?_toList] at h1
 simp only [stC,List.getElem?_toArray]
 rw [List.getElem?_append_right om,h2,show 8 + j - 8 = j by omega,List.getElem?_append_left om,h1]
theorem st_held (hh : hs.length = 8) (hb : bl.length = 64) : (stC hs bl held total)[72]? = some (.int .i64 (held : Int)) := by
 have h2 := wlen hh; have h3 := blen hb
 simp only [stC,List.getElem?_toArray]
 rw [List.getElem?_append_right om,h2,List.getElem?_append_right om,h3]; rfl
theorem st_total (hh : hs.length = 8) (hb : bl.length = 64) : (stC hs bl held total)[73]? = some (.int .u64 (total : Int)) := by
 have h2 := wlen hh; have h3 := blen hb
 simp only [stC,List.getElem?_toArray]
 rw [List.getElem?_append_right om,h2,List.getElem?_append_right om,h3]; rfl
theorem st_setSum (hh : hs.length = 8) {k : Nat} (hk : k < 8) {x : Int} (hx : 0 ≤ x) : (stC hs bl held total).setIfInBounds k (.int .u32 x) = stC (hs.set k x.toNat) bl held total := by
 have h1 := wv_set (l := hs) (i := k) hx
 have h2 := wlen hh
 apply Array.ext'
 simp only [stC,List.setIfInBounds_toArray]
 rw [List.set_append_left _ _ om,← h1,Array.toList_setIfInBounds]
theorem st_setHeld (hh : hs.length = 8) (hb : bl.length = 64) {n : Nat} {x : Int} (hx : x = (n : Int)) : (stC hs bl held total).setIfInBounds 72 (.int .i64 x) = stC hs bl n total := by
 subst hx
 have h2 := wlen hh; have h3 := blen hb
 apply Array.ext'
 simp only [stC,List.setIfInBounds_toArray]
 rw [List.set_append_right _ _ om,h2,List.set_append_right _ _ om,h3]; rfl
theorem st_setTotal (hh : hs.length = 8) (hb : bl.length = 64) {n : Nat} {x : Int} (hx : x = (n : Int)) : (stC hs bl held total).setIfInBounds 73 (.int .u64 x) = stC hs bl held n := by
 subst hx
 have h2 := wlen hh; have h3 := blen hb
 apply Array.ext'
 simp only [stC,List.setIfInBounds_toArray]
 rw [List.set_append_right _ _ om,h2,List.set_append_right _ _ om,h3]; rfl
end
def be4 (a b c d : Nat) : Nat := (((a * 16777216 % 4294967296) ||| (b * 65536 % 4294967296)) ||| (c * 256 % 4294967296)) ||| d
theorem m24 (n : Nat) : ((n : Int) * 16777216 % 4294967296).toNat = n * 16777216 % 4294967296 := by omega
theorem m16 (n : Nat) : ((n : Int) * 65536 % 4294967296).toNat = n * 65536 % 4294967296 := by omega
theorem m8 (n : Nat) : ((n : Int) * 256 % 4294967296).toNat = n * 256 % 4294967296 := by omega
theorem d10 (n : Nat) : ((n : Int) / 1024).toNat = n / 1024 := by omega
theorem d3 (n : Nat) : ((n : Int) / 8).toNat = n / 8 := by omega
theorem be4_eq (a b c d : Nat) : (((((((((((((a : Nat) : Int) * 16777216) % 4294967296)).toNat ||| (((((b : Nat) : Int) * 65536) % 4294967296)).toNat : Nat) : Int)).toNat ||| (((((c : Nat) : Int) * 256) % 4294967296)).toNat : Nat) : Int)).toNat ||| ((((d : Nat) : Int))).toNat : Nat) : Int) = ((be4 a b c d : Nat) : Int) := by
 unfold be4
 rw [m24,m16,m8,Int.toNat_natCast,Int.toNat_natCast,Int.toNat_natCast]
def bt4 (bl : List UInt8) (i : Nat) : Nat := (bl.getD i 0).toNat
def shBe (bl : List UInt8) (t : Nat) : Nat := be4 (bt4 bl (4 * t)) (bt4 bl (4 * t + 1)) (bt4 bl (4 * t + 2)) (bt4 bl (4 * t + 3))
def wlow (x : Nat) : Nat := (rotl x 33554432 128 ^^^ rotl x 16384 262144) ^^^ (x / 8)
def whigh (x : Nat) : Nat := (rotl x 32768 131072 ^^^ rotl x 8192 524288) ^^^ (x / 1024)
theorem x3 (p q r : Nat) (c : Int) (h : c.toNat = r) : ((((((p : Nat) : Int)).toNat ^^^ (((q : Nat) : Int)).toNat : Nat) : Int)).toNat ^^^ c.toNat = (p ^^^ q) ^^^ r := by rw [h]; rfl
theorem wsum (a b c d : Nat) : ((((((a : Int) + (b : Int)) % 4294967296) + (c : Int)) % 4294967296) + (d : Int)) % 4294967296 = (((((a + b) % 4294967296 + c) % 4294967296 + d) % 4294967296 : Nat) : Int) := by omega
def wn4 (y x7 x x16 : Nat) : Nat := (((whigh y + x7) % 4294967296 + wlow x) % 4294967296 + x16) % 4294967296
theorem wn_eq (y x7 x x16 : Nat) : (((((((((((rotl y 32768 131072 : Int)).toNat ^^^ ((rotl y 8192 524288 : Int)).toNat : Nat) : Int)).toNat ^^^ (((y : Int) / 1024)).toNat : Nat) : Int) + (x7 : Int)) % 4294967296) + (((((((rotl x 33554432 128 : Int)).toNat ^^^ ((rotl x 16384 262144 : Int)).toNat : Nat) : Int)).toNat ^^^ (((x : Int) / 8)).toNat : Nat) : Int)) % 4294967296 + (x16 : Int)) % 4294967296 = ((wn4 y x7 x x16 : Nat) : Int) := by
 rw [x3 _ _ _ _ (d10 y),x3 _ _ _ _ (d3 x)]
 exact wsum (whigh y) x7 (wlow x) x16
def rg (r : List Nat) (i : Nat) : Nat := r.getD i 0
def wnext (bl : List UInt8) (r : List Nat) (t : Nat) : Nat := if t < 16 then shBe bl t else wn4 (rg r (t - 2)) (rg r (t - 7)) (rg r (t - 15)) (rg r (t - 16))
def row (bl : List UInt8) : Nat → List Nat
 | 0 => List.replicate 64 0
 | t + 1 => (row bl t).set t (wnext bl (row bl t) t)
theorem row_len (bl : List UInt8) : ∀ t,(row bl t).length = 64
 | 0 => by simp [row]
 | t + 1 => by rw [row,List.length_set]; exact row_len bl t
theorem b8 (b : UInt8) : b.toNat < 2 ^ 32 := by have := UInt8.toNat_lt b; omega
theorem bt4_lt (bl : List UInt8) (i : Nat) : bt4 bl i < 256 := UInt8.toNat_lt _
theorem b84 (bl : List UInt8) (i : Nat) : bt4 bl i < 2 ^ 32 := b8 _
theorem be_lt (bl : List UInt8) (t : Nat) : shBe bl t < 2 ^ 32 :=
 Nat.or_lt_two_pow (Nat.or_lt_two_pow (Nat.or_lt_two_pow (Nat.mod_lt _ (by decide)) (Nat.mod_lt _ (by decide))) (Nat.mod_lt _ (by decide))) (b84 _ _)
theorem wnext_lt (bl : List UInt8) (r : List Nat) (t : Nat) : wnext bl r t < 2 ^ 32 := by
 unfold wnext
 split
 ·exact be_lt ..
 ·exact Nat.mod_lt _ (by decide)
theorem row_lt (bl : List UInt8) : ∀ t j,rg (row bl t) j < 2 ^ 32
 | 0,j => by
  simp only [rg,row,List.getD_eq_getElem?_getD,List.getElem?_replicate]
  split <;> simp
 | t + 1,j => by
  have ih := row_lt bl t j
  simp only [rg,row,List.getD_eq_getElem?_getD,List.getElem?_set] at *
  split
  ·split
   ·exact wnext_lt ..
   ·simp
  ·exact ih
theorem row_step (bl : List UInt8) (t : Nat) {x : Int} (hx : x = (wnext bl (row bl t) t : Int)) : (wv (row bl t)).setIfInBounds t (.int .u32 x) = wv (row bl (t + 1)) := by
 subst hx
 rw [wv_set om]
 rfl
theorem wnext_lo {bl : List UInt8} {t : Nat} (h : t < 16) {x : Int} (hx : x = ((shBe bl t : Nat) : Int)) : x = (wnext bl (row bl t) t : Int) := by rw [hx]; unfold wnext; rw [if_pos h]
theorem wnext_hi {bl : List UInt8} {t : Nat} (h : 16 ≤ t) {x : Int} (hx : x = ((wn4 (rg (row bl t) (t - 2)) (rg (row bl t) (t - 7)) (rg (row bl t) (t - 15)) (rg (row bl t) (t - 16)) : Nat) : Int)) : x = (wnext bl (row bl t) t : Int) := by rw [hx]; unfold wnext; rw [if_neg (by omega)]
theorem wsize (bl : List UInt8) (t : Nat) : (wv (row bl t)).size = 64 := by rw [wv_size,row_len]
end Go.Proofs.YtbeeelgfhfmgbaaGreatDoor
namespace Go.Proofs.YtbeeelgfhfmgbaaGreatDoor
open K
set_option linter.unusedVariables false
def Kc : List Nat := [1116352408,1899447441,3049323471,3921009573,961987163,1508970993,2453635748,2870763221,3624381080,310598401,607225278,1426881987,1925078388,2162078206,2614888103,3248222580,3835390401,4022224774,264347078,604807628,770255983,1249150122,1555081692,1996064986,2554220882,2821834349,2952996808,3210313671,3336571891,3584528711,113926993,338241895,666307205,773529912,1294757372,1396182291,1695183700,1986661051,2177026350,2456956037,2730485921,2820302411,3259730800,3345764771,3516065817,3600352804,4094571909,275423344,430227734,506948616,659060556,883997877,958139571,1322822218,1537002063,1747873779,1955562222,2024104815,2227730452,2361852424,2428436474,2756734187,3204031479,3329325298]
structure W8 where
 a : Nat
 b : Nat
 c : Nat
 d : Nat
 e : Nat
 f : Nat
 g : Nat
 h : Nat
structure W8.Ok (s : W8) : Prop where
 a : s.a < 2 ^ 32
 b : s.b < 2 ^ 32
 c : s.c < 2 ^ 32
 d : s.d < 2 ^ 32
 e : s.e < 2 ^ 32
 f : s.f < 2 ^ 32
 g : s.g < 2 ^ 32
 h : s.h < 2 ^ 32
def bigE (x : Nat) : Nat := (rotl x 67108864 64 ^^^ rotl x 2097152 2048) ^^^ rotl x 128 33554432
def bigA (x : Nat) : Nat := (rotl x 1073741824 4 ^^^ rotl x 524288 8192) ^^^ rotl x 1024 4194304
def choi (e f g : Nat) : Nat := (e &&& f) ^^^ ((4294967295 ^^^ e) &&& g)
def most (a b c : Nat) : Nat := ((a &&& b) ^^^ (a &&& c)) ^^^ (b &&& c)
def fst5 (h x c k w : Nat) : Nat := ((((h + x) % 4294967296 + c) % 4294967296 + k) % 4294967296 + w) % 4294967296
def frst (k w : Nat) (s : W8) : Nat := fst5 s.h (bigE s.e) (choi s.e s.f s.g) k w
def scnd (s : W8) : Nat := (bigA s.a + most s.a s.b s.c) % 4294967296
def rnd (k w : Nat) (s : W8) : W8 := ⟨(frst k w s + scnd s) % 4294967296,s.a,s.b,s.c,(s.d + frst k w s) % 4294967296,s.e,s.f,s.g⟩
def w8 (l : List Nat) : W8 := ⟨rg l 0,rg l 1,rg l 2,rg l 3,rg l 4,rg l 5,rg l 6,rg l 7⟩
def w8l (s : W8) : List Nat := [s.a,s.b,s.c,s.d,s.e,s.f,s.g,s.h]
def rv (hs : List Nat) (bl : List UInt8) : Nat → W8
 | 0 => w8 hs
 | t + 1 => rnd (rg Kc t) (rg (row bl 64) t) (rv hs bl t)
theorem rv_ok {hs : List Nat} (hlt : ∀ i,rg hs i < 2 ^ 32) (bl : List UInt8) : ∀ t,(rv hs bl t).Ok
 | 0 => ⟨hlt 0,hlt 1,hlt 2,hlt 3,hlt 4,hlt 5,hlt 6,hlt 7⟩
 | t + 1 => by
  have ih := rv_ok hlt bl t
  exact ⟨Nat.mod_lt _ (by decide),ih.a,ih.b,ih.c,Nat.mod_lt _ (by decide),ih.e,ih.f,ih.g⟩
theorem add32 (x y : Nat) : ((x : Int) + (y : Int)) % 4294967296 = (((x + y) % 4294967296 : Nat) : Int) := by omega
theorem fst5_eq (h x c k w : Nat) : ((((((((h : Int) + (x : Int)) % 4294967296) + (c : Int)) % 4294967296) + (k : Int)) % 4294967296) + (w : Int)) % 4294967296 = ((fst5 h x c k w : Nat) : Int) := by unfold fst5; omega
def sm (hs vs : List Nat) : Nat → List Nat
 | 0 => hs
 | k + 1 => (sm hs vs k).set k ((rg (sm hs vs k) k + rg vs k) % 4294967296)
theorem sm_len {hs : List Nat} (vs : List Nat) (hh : hs.length = 8) : ∀ k,(sm hs vs k).length = 8
 | 0 => hh
 | k + 1 => by rw [sm,List.length_set]; exact sm_len vs hh k
theorem sm_lt {hs : List Nat} (vs : List Nat) (hlt : ∀ i,rg hs i < 2 ^ 32) : ∀ k i,rg (sm hs vs k) i < 2 ^ 32
 | 0,i => hlt i
 | k + 1,i => by
  have ih := sm_lt vs hlt k i
  simp only [rg,sm,List.getD_eq_getElem?_getD,List.getElem?_set] at *
  split
  ·split
   ·exact Nat.mod_lt _ (by decide)
   ·simp
  ·exact ih
def mixF (hs : List Nat) (bl : List UInt8) : List Nat := sm hs (w8l (rv hs bl 64)) 8
theorem sm_step {hs vs : List Nat} {bl : List UInt8} {held total k : Nat} (hh : hs.length = 8) (hk : k < 8) :
  (stC (sm hs vs k) bl held total).setIfInBounds k (.int .u32 (((rg (sm hs vs k) k : Int) + (rg vs k : Int)) % 4294967296)) = stC (sm hs vs (k + 1)) bl held total := by
 rw [add32,st_setSum (sm_len vs hh k) hk om,Int.toNat_natCast]
 rfl
theorem xx3 (p q r : Nat) : ((((((((p : Nat) : Int)).toNat ^^^ (((q : Nat) : Int)).toNat : Nat) : Int)).toNat ^^^ (((r : Nat) : Int)).toNat : Nat) : Int) = (((p ^^^ q) ^^^ r : Nat) : Int) := rfl
theorem cc4 (m e f g : Nat) : (((((((e : Nat) : Int)).toNat &&& (((f : Nat) : Int)).toNat : Nat) : Int)).toNat ^^^ ((((((m ^^^ (((e : Nat) : Int)).toNat : Nat) : Int)).toNat &&& (((g : Nat) : Int)).toNat : Nat) : Int)).toNat : Nat) = (((e &&& f) ^^^ ((m ^^^ e) &&& g) : Nat) : Int) := rfl
theorem bigE_eq (x : Nat) : ((((((rotl x 67108864 64 : Int)).toNat ^^^ ((rotl x 2097152 2048 : Int)).toNat : Nat) : Int)).toNat ^^^ ((rotl x 128 33554432 : Int)).toNat : Nat) = ((bigE x : Nat) : Int) := by unfold bigE; exact xx3 _ _ _
theorem bigA_eq (x : Nat) : ((((((rotl x 1073741824 4 : Int)).toNat ^^^ ((rotl x 524288 8192 : Int)).toNat : Nat) : Int)).toNat ^^^ ((rotl x 1024 4194304 : Int)).toNat : Nat) = ((bigA x : Nat) : Int) := by unfold bigA; exact xx3 _ _ _
theorem choi_eq (e f g : Nat) : (((((((e : Nat) : Int)).toNat &&& (((f : Nat) : Int)).toNat : Nat) : Int)).toNat ^^^ ((((((4294967295 ^^^ (((e : Nat) : Int)).toNat : Nat) : Int)).toNat &&& (((g : Nat) : Int)).toNat : Nat) : Int)).toNat : Nat) = ((choi e f g : Nat) : Int) := by unfold choi; exact cc4 _ _ _ _
theorem most_eq (a b c : Nat) : ((((((((((a : Int)).toNat &&& ((b : Int)).toNat : Nat) : Int)).toNat ^^^ (((((a : Int)).toNat &&& ((c : Int)).toNat : Nat) : Int)).toNat : Nat) : Int)).toNat ^^^ (((((b : Int)).toNat &&& ((c : Int)).toNat : Nat) : Int)).toNat : Nat) : Int) = ((most a b c : Nat) : Int) := rfl
theorem frst_eq (k w : Nat) (s : W8) : ((((((((s.h : Int) + (bigE s.e : Int)) % 4294967296) + (choi s.e s.f s.g : Int)) % 4294967296) + (k : Int)) % 4294967296) + (w : Int)) % 4294967296 = ((frst k w s : Nat) : Int) := by unfold frst; exact fst5_eq _ _ _ _ _
theorem scnd_eq (s : W8) : ((bigA s.a : Int) + (most s.a s.b s.c : Int)) % 4294967296 = ((scnd s : Nat) : Int) := by unfold scnd; exact add32 _ _
theorem rv_succ (hs : List Nat) (bl : List UInt8) (t : Nat) : rv hs bl (t + 1) = rnd (rg Kc t) (rg (row bl 64) t) (rv hs bl t) := rfl
theorem rnd_def (k w : Nat) (s : W8) : rnd k w s = ⟨(frst k w s + scnd s) % 4294967296,s.a,s.b,s.c,(s.d + frst k w s) % 4294967296,s.e,s.f,s.g⟩ := rfl
section
variable (a b c d e f g h : Nat)
theorem pa : (W8.mk a b c d e f g h).a = a := rfl
theorem pb : (W8.mk a b c d e f g h).b = b := rfl
theorem pc : (W8.mk a b c d e f g h).c = c := rfl
theorem pd : (W8.mk a b c d e f g h).d = d := rfl
theorem pe : (W8.mk a b c d e f g h).e = e := rfl
theorem pf : (W8.mk a b c d e f g h).f = f := rfl
theorem pg : (W8.mk a b c d e f g h).g = g := rfl
theorem ph : (W8.mk a b c d e f g h).h = h := rfl
end
section
variable (hs : List Nat) (bl : List UInt8) (t : Nat)
theorem rv_a : ((frst (rg Kc t) (rg (row bl 64) t) (rv hs bl t) : Int) + (scnd (rv hs bl t) : Int)) % 4294967296 = ((rv hs bl (t + 1)).a : Int) := by rw [rv_succ,rnd_def,pa,add32]
theorem rv_b : ((rv hs bl t).a : Int) = ((rv hs bl (t + 1)).b : Int) := by rw [rv_succ,rnd_def,pb]
theorem rv_c : ((rv hs bl t).b : Int) = ((rv hs bl (t + 1)).c : Int) := by rw [rv_succ,rnd_def,pc]
theorem rv_d : ((rv hs bl t).c : Int) = ((rv hs bl (t + 1)).d : Int) := by rw [rv_succ,rnd_def,pd]
theorem rv_e : (((rv hs bl t).d : Int) + (frst (rg Kc t) (rg (row bl 64) t) (rv hs bl t) : Int)) % 4294967296 = ((rv hs bl (t + 1)).e : Int) := by rw [rv_succ,rnd_def,pe,add32]
theorem rv_f : ((rv hs bl t).e : Int) = ((rv hs bl (t + 1)).f : Int) := by rw [rv_succ,rnd_def,pf]
theorem rv_g : ((rv hs bl t).f : Int) = ((rv hs bl (t + 1)).g : Int) := by rw [rv_succ,rnd_def,pg]
theorem rv_h : ((rv hs bl t).g : Int) = ((rv hs bl (t + 1)).h : Int) := by rw [rv_succ,rnd_def,ph]
end
theorem w8l_len (s : W8) : (w8l s).length = 8 := rfl
def KT (kt : Array Value) : Prop := ∀ t,t < 64 → kt[t]? = some (.int .u32 (rg Kc t : Int))
theorem kget {t : Nat} (h : t < 64) : (wv Kc)[t]? = some (.int .u32 (rg Kc t : Int)) := wv_get (n := 64) rfl h
end Go.Proofs.YtbeeelgfhfmgbaaGreatDoor
namespace Go.Proofs.YtbeeelgfhfmgbaaGreatDoor
open K
set_option linter.unusedVariables false
structure Sh where
 hs : List Nat
 bl : List UInt8
 held : Nat
structure Sh.Ok (s : Sh) : Prop where
 hh : s.hs.length = 8
 hb : s.bl.length = 64
 hlt : ∀ i,rg s.hs i < 2 ^ 32
 held : s.held < 64
theorem mixF_len {hs : List Nat} (bl : List UInt8) (hh : hs.length = 8) : (mixF hs bl).length = 8 := sm_len _ hh 8
theorem mixF_lt {hs : List Nat} (bl : List UInt8) (hlt : ∀ i,rg hs i < 2 ^ 32) : ∀ i,rg (mixF hs bl) i < 2 ^ 32 := sm_lt _ hlt 8
def feedB (s : Sh) (c : UInt8) : Sh := if s.held + 1 = 64 then ⟨mixF s.hs (s.bl.set s.held c),s.bl.set s.held c,0⟩ else ⟨s.hs,s.bl.set s.held c,s.held + 1⟩
def feed (s : Sh) (l : List UInt8) : Sh := l.foldl feedB s
theorem feed_nil (s : Sh) : feed s [] = s := rfl
theorem feed_app (s : Sh) (a b : List UInt8) : feed s (a ++ b) = feed (feed s a) b := List.foldl_append ..
theorem feedB_ok {s : Sh} (h : s.Ok) (c : UInt8) : (feedB s c).Ok := by
 unfold feedB
 split
 ·exact ⟨mixF_len _ h.hh,by simp [h.hb],mixF_lt _ h.hlt,Nat.zero_lt_succ 63⟩
 ·have := h.held
  exact ⟨h.hh,by simp [h.hb],h.hlt,by show s.held + 1 < 64; omega⟩
theorem feed_ok : ∀ (l : List UInt8) {s : Sh},s.Ok → (feed s l).Ok
 | [],s,h => h
 | c :: l,s,h => feed_ok l (feedB_ok h c)
theorem feedB_held {s : Sh} (h : s.Ok) (c : UInt8) : (feedB s c).held = (s.held + 1) % 64 := by
 have := h.held
 unfold feedB
 split <;> simp only <;> omega
theorem feed_held : ∀ (l : List UInt8) {s : Sh},s.Ok → (feed s l).held = (s.held + l.length) % 64
 | [],s,h => by have := h.held; show s.held = (s.held + 0) % 64; omega
 | c :: l,s,h => by
  have e := feed_held l (feedB_ok h c)
  rw [feedB_held h c] at e
  show (feed (feedB s c) l).held = _
  rw [e,List.length_cons]; omega
def lay (bl : List UInt8) (off : Nat) : List UInt8 → List UInt8
 | [] => bl
 | c :: l => lay (bl.set off c) (off + 1) l
theorem lay_len : ∀ (l bl : List UInt8) (off : Nat),(lay bl off l).length = bl.length
 | [],bl,off => rfl
 | c :: l,bl,off => by rw [lay,lay_len l,List.length_set]
theorem feed_part : ∀ (l : List UInt8) (hs : List Nat) (bl : List UInt8) (held : Nat),held + l.length < 64 → feed ⟨hs,bl,held⟩ l = ⟨hs,lay bl held l,held + l.length⟩
 | [],hs,bl,held,_ => rfl
 | c :: l,hs,bl,held,h => by
  rw [List.length_cons] at h
  have e : feedB ⟨hs,bl,held⟩ c = ⟨hs,bl.set held c,held + 1⟩ := by unfold feedB; rw [if_neg (by show ¬ held + 1 = 64; omega)]
  show feed (feedB ⟨hs,bl,held⟩ c) l = _
  rw [e,feed_part l hs (bl.set held c) (held + 1) om,lay,List.length_cons,show held + 1 + l.length = held + (l.length + 1) by omega]
theorem feed_full : ∀ (l : List UInt8) (hs : List Nat) (bl : List UInt8) (held : Nat),held < 64 → held + l.length = 64 → feed ⟨hs,bl,held⟩ l = ⟨mixF hs (lay bl held l),lay bl held l,0⟩
 | [],hs,bl,held,h0,h => by simp at h; omega
 | c :: l,hs,bl,held,h0,h => by
  rw [List.length_cons] at h
  show feed (feedB ⟨hs,bl,held⟩ c) l = _
  by_cases hl : held + 1 = 64
  ·obtain rfl : l = [] := List.eq_nil_of_length_eq_zero om
   unfold feedB; rw [if_pos hl]; rfl
  ·have e : feedB ⟨hs,bl,held⟩ c = ⟨hs,bl.set held c,held + 1⟩ := by unfold feedB; rw [if_neg hl]
   rw [e,feed_full l hs (bl.set held c) (held + 1) om om,lay]
theorem st_setByte {hs : List Nat} {bl : List UInt8} {held total j : Nat} (hh : hs.length = 8) (hb : bl.length = 64) (hj : j < 64) (c : UInt8) :
  (stC hs bl held total).setIfInBounds (8 + j) (.int .u8 (c.toNat : Int)) = stC hs (bl.set j c) held total := by
 have h1 := bv_set (l := bl) (i := j) (x := (c.toNat : Int)) om (by have := UInt8.toNat_lt c; omega)
 have h2 := wlen hh; have h3 := blen hb
 apply Array.ext'
 simp only [stC,List.setIfInBounds_toArray]
 rw [List.set_append_right _ _ om,h2,show 8 + j - 8 = j by omega,List.set_append_left _ _ om]
 rw [show UInt8.ofNat ((c.toNat : Int)).toNat = c by simp] at h1
 rw [← h1,Array.toList_setIfInBounds]
theorem spl_lay : ∀ (l : List UInt8) {hs : List Nat} {bl : List UInt8} {held total j : Nat},hs.length = 8 → bl.length = 64 → j + l.length ≤ 64 → spl (stC hs bl held total) (8 + j) (bv l).toList = stC hs (lay bl j l) held total
 | [],hs,bl,held,total,j,hh,hb,hj => rfl
 | c :: l,hs,bl,held,total,j,hh,hb,hj => by
  rw [List.length_cons] at hj
  show spl ((stC hs bl held total).setIfInBounds (8 + j) (.int .u8 (c.toNat : Int))) (8 + j + 1) (bv l).toList = _
  rw [st_setByte hh hb om,show 8 + j + 1 = 8 + (j + 1) by omega,spl_lay l hh (by simp [hb]) om,lay]
theorem off_eq {held : Nat} (h : held < 64) : (if 64 = held then 8 else (addO 8 held)) = 8 + held := by rw [if_neg (by omega),addO_eq]
theorem sext_list (p : ByteArray) (n : Nat) : (p.extract n p.size).data.toList = p.data.toList.drop n := by
 rw [ByteArray.data_extract,Array.toList_extract]
 have : p.size = p.data.toList.length := by simp
 rw [this,List.extract_eq_take_drop,List.take_of_length_le (by simp)]
theorem part_len {p : ByteArray} {n : Nat} (h : n ≤ p.size) : (p.data.toList.take n).length = n := by
 have : p.size = p.data.toList.length := by simp
 rw [List.length_take]; omega
theorem feed_ext (s : Sh) (p : ByteArray) (n : Nat) : feed (feed s (p.data.toList.take n)) (p.extract n p.size).data.toList = feed s p.data.toList := by
 rw [sext_list,← feed_app,List.take_append_drop]
def cn (p : ByteArray) (held : Nat) : Nat := min p.size (64 - held)
theorem ext_size (p : ByteArray) (n : Nat) (h : n ≤ p.size) : (p.extract n p.size).size = p.size - n := by
 rw [ByteArray.size_extract]; omega
def lb (total : Nat) : Nat := total * 8 % 18446744073709551616
theorem lb_eq (total : Nat) : ((total : Int) * 8) % 18446744073709551616 = ((lb total : Nat) : Int) := by unfold lb; omega
def pz (z : Sh) (j : Nat) : Sh := feed z (128 :: List.replicate j 0)
def tj (total j : Nat) : Nat := (total + 1 + j) % 18446744073709551616
def padN (z : Sh) : Nat := (119 - z.held) % 64
theorem pz_zero (z : Sh) : feedB z 128 = pz z 0 := rfl
theorem pz_succ (z : Sh) (j : Nat) : feedB (pz z j) 0 = pz z (j + 1) := by
 unfold pz
 rw [List.replicate_succ',← List.cons_append,feed_app]; rfl
theorem tj_zero (total : Nat) : (total + 1) % 18446744073709551616 = tj total 0 := rfl
theorem tj_succ (total j : Nat) : (tj total j + 1) % 18446744073709551616 = tj total (j + 1) := by unfold tj; omega
theorem pz_ok {z : Sh} (h : z.Ok) (j : Nat) : (pz z j).Ok := feed_ok _ h
theorem pz_held {z : Sh} (h : z.Ok) (j : Nat) : (pz z j).held = (z.held + 1 + j) % 64 := by
 unfold pz
 rw [feed_held _ h,List.length_cons,List.length_replicate,show z.held + (j + 1) = z.held + 1 + j by omega]
theorem pad_end {z : Sh} (h : z.Ok) {j : Nat} (hj : j ≤ padN z) : ((pz z j).held : Int) = 56 ↔ j = padN z := by
 have h1 := h.held
 rw [pz_held h]
 unfold padN at *
 omega
def tb (n i : Nat) : UInt8 := UInt8.ofNat (n / 2 ^ (56 - 8 * i))
def tlr (n k : Nat) : List UInt8 := (List.range k).map (tb n) ++ List.replicate (8 - k) 0
theorem tlr_len {n k : Nat} (h : k ≤ 8) : (tlr n k).length = 8 := by simp [tlr]; omega
theorem u8mod (m : Nat) : UInt8.ofNat (m % 256) = UInt8.ofNat m := by apply UInt8.toNat_inj.1; simp
theorem set_one (A : List UInt8) (m : Nat) (x : UInt8) (hm : 1 ≤ m) : (A ++ List.replicate m 0).set A.length x = A ++ [x] ++ List.replicate (m - 1) 0 := by
 obtain ⟨q,rfl⟩ : ∃ q,m = q + 1 := ⟨m - 1,by omega⟩
 simp [List.replicate_succ]
theorem tlr_step {n k : Nat} (hk : k < 8) {x : Int} (hx : x = (n : Int) / ((2 ^ ((56 - 8 * (k : Int))).toNat : Nat) : Int) % 256) : (bv (tlr n k)).setIfInBounds k (.int .u8 x) = bv (tlr n (k + 1)) := by
 have e : x = ((n / 2 ^ (56 - 8 * k) % 256 : Nat) : Int) := by
  rw [hx,show (56 - 8 * (k : Int)).toNat = 56 - 8 * k by omega]; rfl
 subst e
 have hb : n / 2 ^ (56 - 8 * k) % 256 < 256 := Nat.mod_lt _ (by decide)
 rw [bv_set (Int.natCast_nonneg _) om,Int.toNat_natCast,u8mod]
 congr 1
 have h1 := set_one ((List.range k).map (tb n)) (8 - k) (tb n k) om
 rw [List.length_map,List.length_range] at h1
 unfold tlr
 rw [List.range_succ,List.map_append]
 exact h1
def tls (n : Nat) : ByteArray := ⟨(tlr n 8).toArray⟩
def dg4 (x : Nat) : List UInt8 := [UInt8.ofNat (x / 16777216),UInt8.ofNat (x / 65536),UInt8.ofNat (x / 256),UInt8.ofNat x]
def dgr (hs : List Nat) (k : Nat) : List UInt8 := (List.range k).flatMap (fun i => dg4 (rg hs i)) ++ List.replicate (32 - 4 * k) 0
theorem dgf_len (hs : List Nat) : ∀ k,((List.range k).flatMap (fun i => dg4 (rg hs i))).length = 4 * k
 | 0 => rfl
 | k + 1 => by rw [List.range_succ,List.flatMap_append,List.length_append,dgf_len hs k]; simp [dg4]; omega
theorem dgr_len {hs : List Nat} {k : Nat} (h : k ≤ 8) : (dgr hs k).length = 32 := by simp only [dgr,List.length_append,dgf_len,List.length_replicate]; omega
theorem set_four (A : List UInt8) (m : Nat) (a b c d : UInt8) (hm : 4 ≤ m) : ((((A ++ List.replicate m 0).set A.length a).set (A.length + 1) b).set (A.length + 2) c).set (A.length + 3) d = A ++ [a,b,c,d] ++ List.replicate (m - 4) 0 := by
 obtain ⟨q,rfl⟩ : ∃ q,m = q + 4 := ⟨m - 4,by omega⟩
 simp [List.replicate_succ]
theorem bset (l : List UInt8) (i m : Nat) : (bv l).setIfInBounds i (.int .u8 ((m % 256 : Nat) : Int)) = bv (l.set i (UInt8.ofNat m)) := by
 have hb : m % 256 < 256 := Nat.mod_lt _ (by decide)
 rw [bv_set (Int.natCast_nonneg _) om,Int.toNat_natCast,u8mod]
theorem dgr_step (hs : List Nat) {k : Nat} (hk : k < 8) {a b c d : Int} (ha : a = ((rg hs k / 16777216 % 256 : Nat) : Int)) (hb : b = ((rg hs k / 65536 % 256 : Nat) : Int)) (hc : c = ((rg hs k / 256 % 256 : Nat) : Int)) (hd : d = ((rg hs k % 256 : Nat) : Int)) :
  ((((bv (dgr hs k)).setIfInBounds (4 * k) (.int .u8 a)).setIfInBounds ((4 * k) + 1) (.int .u8 b)).setIfInBounds ((4 * k) + 2) (.int .u8 c)).setIfInBounds ((4 * k) + 3) (.int .u8 d) = bv (dgr hs (k + 1)) := by
 subst ha hb hc hd
 rw [bset,bset,bset,bset]
 congr 1
 have h1 := set_four ((List.range k).flatMap (fun i => dg4 (rg hs i))) (32 - 4 * k) (UInt8.ofNat (rg hs k / 16777216)) (UInt8.ofNat (rg hs k / 65536)) (UInt8.ofNat (rg hs k / 256)) (UInt8.ofNat (rg hs k)) om
 rw [dgf_len] at h1
 unfold dgr
 rw [h1,List.range_succ,List.flatMap_append,show 32 - 4 * (k + 1) = 32 - 4 * k - 4 by omega]
 simp [dg4]
def z3 (z : Sh) (total : Nat) : Sh := feed (pz z (padN z)) (tlr (lb total) 8)
def shaEnd (z : Sh) (total : Nat) : List UInt8 := dgr (z3 z total).hs 8
theorem shaEnd_len (z : Sh) (total : Nat) : (shaEnd z total).length = 32 := dgr_len (Nat.le_refl 8)
theorem z3_ok {z : Sh} (h : z.Ok) (total : Nat) : (z3 z total).Ok := feed_ok _ (pz_ok h _)
theorem zsz : (bv (List.replicate 32 0)).size = 32 := rfl
theorem dsz (hs : List Nat) {k : Nat} (h : k ≤ 8) : (bv (dgr hs k)).size = 32 := (bv_size _).trans (dgr_len h)
namespace K
theorem HP.dropM {w0 w w' : World} {M : List Nat} {R O : List (Nat × Obj)} (h : HP w0 M R O w) (i : Nat) {b : Nat} {o : Obj} (hi : O[i]? = some (b,o)) (hx : Ext [b] w w') : HP w0 M R (O.eraseIdx i) w' :=
 h.call hx _ (List.eraseIdx_sublist ..) (by
  intro k hk
  simp only [List.mem_cons,List.not_mem_nil,or_false] at hk
  subst hk
  exact List.mem_map.2 ⟨_,List.mem_of_getElem? hi,rfl⟩) (by
  intro e he hm
  simp only [List.mem_cons,List.not_mem_nil,or_false] at hm
  obtain ⟨j,hj⟩ := List.mem_iff_getElem?.1 he
  rw [List.getElem?_eraseIdx] at hj
  split at hj
  ·rename_i hlt
   have := nodup_inj h.dist (i := j) (j := i) (x := b) (by simp [hj,hm]) (by simp [hi])
   omega
  ·rename_i hlt
   have := nodup_inj h.dist (i := j + 1) (j := i) (x := b) (by simp [hj,hm]) (by simp [hi])
   omega)
theorem Eff.callD {C : Cx} {R O : List (Nat × Obj)} {Γ : Env} {o : Oper} {f : FuncId} {fn : Func} {c : Code} {xs : List Operand} {tys : Array TypeId} {vs : List Value} (v : Value) (i : Nat) {b : Nat} {ob : Obj} (ho : o.op = .call ⟨.value (.func f),xs.toArray,tys⟩) (hf : C.P.funcs[f]? = some fn)
  (hnm : (fn.name == "runtime.NumGoroutine") = false) (hb : fn.body = some c) (hx : opds Γ xs = some vs) (hi : O[i]? = some (b,ob))
  (h : ∀ w,HP C.w0 C.M R O w → Calls C.P f vs.toArray w fun e w' => e = .returned v ∧ Ext [b] w w') : Eff C R O Γ o Unit (fun _ => v) (fun _ => O.eraseIdx i) (fun _ => True) :=
 Eff.call ho hf hnm hb hx fun w hp => (h w hp).mono fun _ _ hh => ⟨(),trivial,hh.1,hp.dropM i hi hh.2⟩
end K
def H8 : List Nat := [1779033703,3144134277,1013904242,2773480762,1359893119,2600822924,528734635,1541459225]
def sh0 : Sh := ⟨H8,List.replicate 64 0,0⟩
theorem sh0_ok : sh0.Ok := ⟨rfl,rfl,fun i => by
 unfold sh0 H8 rg
 rcases i with _ | _ | _ | _ | _ | _ | _ | _ | i <;> simp,by decide⟩
def ssat (ss : List ByteArray) (i : Nat) : ByteArray := ss.getD i ByteArray.empty
def scat (ss : List ByteArray) : List UInt8 := ss.flatMap fun s => s.data.toList
def sz (ss : List ByteArray) (i : Nat) : Sh := feed sh0 (scat (ss.take i))
def tt (ss : List ByteArray) (i : Nat) : Nat := (scat (ss.take i)).length % 18446744073709551616
theorem take_ssat {ss : List ByteArray} {i : Nat} (h : i < ss.length) : ss.take (i + 1) = ss.take i ++ [ssat ss i] := by
 rw [List.take_succ_eq_append_getElem h]; simp [ssat,List.getElem?_eq_getElem h]
theorem scat_app (a b : List ByteArray) : scat (a ++ b) = scat a ++ scat b := List.flatMap_append ..
theorem scat_one (s : ByteArray) : scat [s] = s.data.toList := by simp [scat]
theorem sz_succ {ss : List ByteArray} {i : Nat} (h : i < ss.length) : feed (sz ss i) (ssat ss i).data.toList = sz ss (i + 1) := by
 unfold sz; rw [take_ssat h,scat_app,scat_one,feed_app]
theorem tt_succ {ss : List ByteArray} {i : Nat} (h : i < ss.length) : (tt ss i + (ssat ss i).size) % 18446744073709551616 = tt ss (i + 1) := by
 unfold tt; rw [take_ssat h,scat_app,scat_one,List.length_append]
 have : (ssat ss i).data.toList.length = (ssat ss i).size := by simp
 omega
theorem sz_ok (ss : List ByteArray) (i : Nat) : (sz ss i).Ok := feed_ok _ sh0_ok
def shaD (l : List UInt8) : List UInt8 := shaEnd (feed sh0 l) (l.length % 18446744073709551616)
theorem shaD_len (l : List UInt8) : (shaD l).length = 32 := shaEnd_len _ _
theorem sz_all (ss : List ByteArray) : shaEnd (sz ss ss.length) (tt ss ss.length) = shaD (scat ss) := by unfold sz tt shaD; rw [List.take_length]
theorem dz (l : List UInt8) : (bv (shaD l)).size = 32 := (bv_size _).trans (shaD_len l)
end Go.Proofs.YtbeeelgfhfmgbaaGreatDoor
namespace Go.Proofs.YtbeeelgfhfmgbaaGreatDoor
open K
set_option linter.unusedVariables false
theorem words (b : Nat) (hs : List Nat) (bl : List UInt8) (held total : Nat) (w : World) (hh : hs.length = 8) (hb : bl.length = 64) (hR : Has w [(b,.cells (stC hs bl held total) 147 (0,0))]) :
  Calls Tryz.prog 101 #[.pointer (some ⟨b,0,none⟩)] w fun e w' => e = .returned (.agg (wv (row bl 64))) ∧ Ext [] w w' := by
 refine enter [] [(b,.cells (stC hs bl held total) 147 (0,0))] [] Tryz.func101 rfl kr (HP.ofHas hR) ?_
 refine Cfg.begL rfl ?_
 refine Le (Eff.alloc (z := (.agg (wv (List.replicate 64 0)))) rfl kr) ?_
 rintro r ⟨hr,nr⟩
 refine CfgL.done rfl ?_
 refine Cfg.begL rfl ?_
 refine Le (Eff.alloc (z := (.agg (wv (List.replicate 64 0)))) rfl kr) ?_
 rintro xw ⟨hxw,nxw⟩
 refine CfgL.done rfl ?_
 refine Rq [0,2,3,10] ?_
 refine Cfg.loop rfl (ι := Nat) (fun (t : Nat) => [(10,[],iN t),(3,[],pT xw),(2,[],pT r),(0,[],pT b)]) (fun (t : Nat) => [(xw,.cells (wv (row bl t)) 157 (0,0)),(r,.cells (wv (List.replicate 64 0)) 157 (0,0))]) (fun (t : Nat) => (t ≤ 16)) (fun (t : Nat) => 16 - t) 0 ?_ (Conv.mk kr) (.cons_cons _ (.cons_cons _ .slnil)) ?_
 ·exact Nat.zero_le _
 ·rintro t ht
  refine Rq [0,2,3,10,11] ?_
  refine Cfg.cond rfl (b := (decide ((t : Int) < (16 : Int)))) kr (fun c1r => ?_) (fun c1r => ?_)
  ·have c1 := (dT c1r)
   refine Rq [0,2,3,4,10] ?_
   refine Cfg.begA rfl kr [(r,.cells (wv (List.replicate 64 0)) 157 (0,0))] ?_
   refine Ap (List.range 43) [dZ,dZ,dZ,dZ,dZ,dZ,dZ,(dS (.int .u8 (bt4 bl (4 * t) : Int))),dZ,dZ,dZ,dZ,dZ,dZ,dZ,dZ,dZ,(dS (.int .u8 (bt4 bl ((4 * t) + 1) : Int))),dZ,dZ,dZ,dZ,dZ,dZ,dZ,dZ,dZ,dZ,(dS (.int .u8 (bt4 bl ((4 * t) + 2) : Int))),dZ,dZ,dZ,dZ,dZ,dZ,dZ,dZ,dZ,dZ,(dS (.int .u8 (bt4 bl ((4 * t) + 3) : Int)))] (some [0,2,3,10,54,55]) (tF 43 1) (.cons _ (.cons_cons _ .slnil)) 1 (fun S => [(i6 (4 * (t : Int))),(iL (4 * (t : Int)) 64),(cE S b (addO 8 (4 * t)) (.int .u8 (bt4 bl (4 * t) : Int))),((0 : Int) ≤ (bt4 bl (4 * t) : Int) ∧ (bt4 bl (4 * t) : Int) ≤ 4294967295),(0 ≤ (24 : Int) ∧ 24 ≤ 32),(i6 (4 * (t : Int))),(i6 ((4 * (t : Int)) + 1)),(iL ((4 * (t : Int)) + 1) 64),(cE S b (addO 8 ((4 * t) + 1)) (.int .u8 (bt4 bl ((4 * t) + 1) : Int))),((0 : Int) ≤ (bt4 bl ((4 * t) + 1) : Int) ∧ (bt4 bl ((4 * t) + 1) : Int) ≤ 4294967295),(0 ≤ (16 : Int) ∧ 16 ≤ 32),((0 ≤ (((bt4 bl (4 * t) : Int) * 16777216) % 4294967296) ∧ (((bt4 bl (4 * t) : Int) * 16777216) % 4294967296) ≤ 4294967295) ∧ 0 ≤ (((bt4 bl ((4 * t) + 1) : Int) * 65536) % 4294967296) ∧ (((bt4 bl ((4 * t) + 1) : Int) * 65536) % 4294967296) ≤ 4294967295),(i6 (4 * (t : Int))),(i6 ((4 * (t : Int)) + 2)),(iL ((4 * (t : Int)) + 2) 64),(cE S b (addO 8 ((4 * t) + 2)) (.int .u8 (bt4 bl ((4 * t) + 2) : Int))),((0 : Int) ≤ (bt4 bl ((4 * t) + 2) : Int) ∧ (bt4 bl ((4 * t) + 2) : Int) ≤ 4294967295),(0 ≤ (8 : Int) ∧ 8 ≤ 32),((0 ≤ ((((((bt4 bl (4 * t) : Int) * 16777216) % 4294967296)).toNat ||| ((((bt4 bl ((4 * t) + 1) : Int) * 65536) % 4294967296)).toNat : Nat) : Int) ∧ ((((((bt4 bl (4 * t) : Int) * 16777216) % 4294967296)).toNat ||| ((((bt4 bl ((4 * t) + 1) : Int) * 65536) % 4294967296)).toNat : Nat) : Int) ≤ 4294967295) ∧ 0 ≤ (((bt4 bl ((4 * t) + 2) : Int) * 256) % 4294967296) ∧ (((bt4 bl ((4 * t) + 2) : Int) * 256) % 4294967296) ≤ 4294967295),(i6 (4 * (t : Int))),(i6 ((4 * (t : Int)) + 3)),(iL ((4 * (t : Int)) + 3) 64),(cE S b (addO 8 ((4 * t) + 3)) (.int .u8 (bt4 bl ((4 * t) + 3) : Int))),((0 : Int) ≤ (bt4 bl ((4 * t) + 3) : Int) ∧ (bt4 bl ((4 * t) + 3) : Int) ≤ 4294967295),((0 ≤ (((((((((bt4 bl (4 * t) : Int) * 16777216) % 4294967296)).toNat ||| ((((bt4 bl ((4 * t) + 1) : Int) * 65536) % 4294967296)).toNat : Nat) : Int)).toNat ||| ((((bt4 bl ((4 * t) + 2) : Int) * 256) % 4294967296)).toNat : Nat) : Int) ∧ (((((((((bt4 bl (4 * t) : Int) * 16777216) % 4294967296)).toNat ||| ((((bt4 bl ((4 * t) + 1) : Int) * 65536) % 4294967296)).toNat : Nat) : Int)).toNat ||| ((((bt4 bl ((4 * t) + 2) : Int) * 256) % 4294967296)).toNat : Nat) : Int) ≤ 4294967295) ∧ 0 ≤ (bt4 bl ((4 * t) + 3) : Int) ∧ (bt4 bl ((4 * t) + 3) : Int) ≤ 4294967295),(iL (t : Int) 64)]) ⟨om,om,(fun w1 h => h.rcell 0 rfl (by rw [addO_eq]; exact st_byte hh hb om)),(by have := bt4_lt bl (4 * t); omega),om,om,om,om,(fun w1 h => h.rcell 0 rfl (by rw [addO_eq]; exact st_byte hh hb om)),(by have := bt4_lt bl ((4 * t) + 1); omega),om,(by have := bt4_lt bl (4 * t); have := bt4_lt bl ((4 * t) + 1); omega),om,om,om,(fun w1 h => h.rcell 0 rfl (by rw [addO_eq]; exact st_byte hh hb om)),(by have := bt4_lt bl ((4 * t) + 2); omega),om,⟨⟨Int.natCast_nonneg _,le_pow (b := 32) (Nat.or_lt_two_pow om om)⟩,⟨by omega,by omega⟩⟩,om,om,om,(fun w1 h => h.rcell 0 rfl (by rw [addO_eq]; exact st_byte hh hb om)),(by have := bt4_lt bl ((4 * t) + 3); omega),⟨⟨Int.natCast_nonneg _,le_pow (b := 32) (Nat.or_lt_two_pow (tn_lt (Nat.or_lt_two_pow om om)) om)⟩,⟨Int.natCast_nonneg _,le_pow (b := 32) (b84 _ _)⟩⟩,om,trivial⟩ ?_
   refine Au 43 rfl 0  (Eff.store1 (b := xw) (off := t) (v := uN (((((((((((bt4 bl (4 * t) : Int) * 16777216) % 4294967296)).toNat ||| ((((bt4 bl ((4 * t) + 1) : Int) * 65536) % 4294967296)).toNat : Nat) : Int)).toNat ||| ((((bt4 bl ((4 * t) + 2) : Int) * 256) % 4294967296)).toNat : Nat) : Int)).toNat ||| ((bt4 bl ((4 * t) + 3) : Int)).toNat)) rfl kr kr rfl kr 0 (cs := (wv (row bl t))) (e := 157) kr (by rw [wsize]; omega)) (fun _ _ => (.cons _ (.cons_cons _ .slnil))) ?_
   refine CfgA.done kr ?_
   refine Cg (Γ' := [(10,[],iN t),(3,[],pT xw),(2,[],pT r),(0,[],pT b)]) ?_
   refine Rg [0,2,3,10] [] (fun _ => [(i6 ((t : Int) + 1))]) ⟨om,trivial⟩ ?_
   refine oB 0 rfl (show _ = (wv (row bl (t + 1))) from row_step bl t (wnext_lo om (be4_eq _ _ _ _))) ?_
   refine Cfg.again rfl (t + 1) (by show t + 1 ≤ 16; omega) (by show 16 - (t + 1) < 16 - t; omega) (Conv.mk kr) (.cons_cons _ (.cons_cons _ .slnil))
  ·have c1 := (dF c1r)
   obtain rfl : t = 16 := by omega
   refine Conv.cfg (Γ' := [(3,[],pT xw),(2,[],pT r),(0,[],pT b)]) (Conv.mk kr) ?_
   refine Rq [2,3,5] ?_
   refine Cfg.loop rfl (ι := Nat) (fun (t : Nat) => [(5,[],iN t),(3,[],pT xw),(2,[],pT r)]) (fun (t : Nat) => [(xw,.cells (wv (row bl t)) 157 (0,0)),(r,.cells (wv (List.replicate 64 0)) 157 (0,0))]) (fun (t : Nat) => (16 ≤ t) ∧ (t ≤ 64)) (fun (t : Nat) => 64 - t) 16 ?_ (Conv.mk kr) (.cons_cons _ (.cons_cons _ .slnil)) ?_
   ·exact ⟨Nat.le_refl _,by decide⟩
   ·rintro t ⟨ht0,ht⟩
    refine Rq [2,3,5,58] ?_
    refine Cfg.cond rfl (b := (decide ((t : Int) < (64 : Int)))) kr (fun c2r => ?_) (fun c2r => ?_)
    ·have c2 := (dT c2r)
     refine Cfg.regD rfl kr [2,3,5,6,7] [dZ,dZ,dZ,(dS (.int .u32 (rg (row bl t) (t - 15) : Int))),dZ,dZ,dZ,(dS (.int .u32 (rg (row bl t) (t - 2) : Int)))] (Γ' := [(7,[],.int .u32 (rg (row bl t) (t - 2) : Int)),(6,[],.int .u32 (rg (row bl t) (t - 15) : Int)),(5,[],iN t),(3,[],pT xw),(2,[],pT r)]) (nd := (fun S => [(i6 ((t : Int) - 15)),(iL ((t : Int) - 15) 64),(cE S xw ((((t : Int) - 15)).toNat) (.int .u32 (rg (row bl t) (t - 15) : Int))),(i6 ((t : Int) - 2)),(iL ((t : Int) - 2) 64),(cE S xw ((((t : Int) - 2)).toNat) (.int .u32 (rg (row bl t) (t - 2) : Int)))])) kr kr (fun _ => kr) ⟨om,om,(fun w1 h => h.ocell 0 rfl (by rw [show (((t : Int) - 15)).toNat = (t - 15) by omega]; exact wv_get (row_len bl t) om)),om,om,(fun w1 h => h.ocell 0 rfl (by rw [show (((t : Int) - 2)).toNat = (t - 2) by omega]; exact wv_get (row_len bl t) om)),trivial⟩ ?_
     refine Cfg.begL rfl ?_
     refine Lp 1 [] none n0 trivial ?_
     refine Lu (Eff.callA (.int .u32 (rotl (rg (row bl t) (t - 15)) 33554432 128 : Int)) rfl Tryz.func102 rfl rfl kr (fun w1 _ => rot25 _ w1 (row_lt bl t _))) ?_
     refine Lq 1 [2,3,5,6,7,70,71] ?_
     refine Lu (Eff.callA (.int .u32 (rotl (rg (row bl t) (t - 15)) 16384 262144 : Int)) rfl Tryz.func102 rfl rfl kr (fun w1 _ => rot14 _ w1 (row_lt bl t _))) ?_
     refine Lp 5 [] (some [2,3,5,7,8]) (fun _ => [((0 ≤ (rotl (rg (row bl t) (t - 15)) 33554432 128 : Int) ∧ (rotl (rg (row bl t) (t - 15)) 33554432 128 : Int) ≤ 4294967295) ∧ 0 ≤ (rotl (rg (row bl t) (t - 15)) 16384 262144 : Int) ∧ (rotl (rg (row bl t) (t - 15)) 16384 262144 : Int) ≤ 4294967295),(0 ≤ (3 : Int) ∧ 3 ≤ 32),((0 ≤ ((((rotl (rg (row bl t) (t - 15)) 33554432 128 : Int)).toNat ^^^ ((rotl (rg (row bl t) (t - 15)) 16384 262144 : Int)).toNat : Nat) : Int) ∧ ((((rotl (rg (row bl t) (t - 15)) 33554432 128 : Int)).toNat ^^^ ((rotl (rg (row bl t) (t - 15)) 16384 262144 : Int)).toNat : Nat) : Int) ≤ 4294967295) ∧ 0 ≤ ((rg (row bl t) (t - 15) : Int) / 8) ∧ ((rg (row bl t) (t - 15) : Int) / 8) ≤ 4294967295)]) ⟨⟨⟨Int.natCast_nonneg _,le_pow (b := 32) (rotl_lt (row_lt bl t _))⟩,⟨Int.natCast_nonneg _,le_pow (b := 32) (rotl_lt (row_lt bl t _))⟩⟩,om,⟨⟨Int.natCast_nonneg _,le_pow (b := 32) (Nat.xor_lt_two_pow (tn_lt (rotl_lt (row_lt bl t _))) (tn_lt (rotl_lt (row_lt bl t _))))⟩,⟨Int.natCast_nonneg _,le_pow (b := 32) (Nat.lt_of_le_of_lt (Nat.div_le_self _ _) (row_lt bl t _))⟩⟩,trivial⟩ ?_
     refine CfgL.done rfl ?_
     refine Cfg.begL rfl ?_
     refine Lp 1 [] none n0 trivial ?_
     refine Lu (Eff.callA (.int .u32 (rotl (rg (row bl t) (t - 2)) 32768 131072 : Int)) rfl Tryz.func102 rfl rfl kr (fun w1 _ => rot15 _ w1 (row_lt bl t _))) ?_
     refine CfgL.pure 1 [] (some [2,3,5,7,8,78,79]) (Γ' := [(79,[],.int .u32 (rg (row bl t) (t - 2) : Int)),(78,[],.int .u32 (rotl (rg (row bl t) (t - 2)) 32768 131072 : Int)),(8,[],uN ((((((rotl (rg (row bl t) (t - 15)) 33554432 128 : Int)).toNat ^^^ ((rotl (rg (row bl t) (t - 15)) 16384 262144 : Int)).toNat : Nat) : Int)).toNat ^^^ (((rg (row bl t) (t - 15) : Int) / 8)).toNat)),(7,[],.int .u32 (rg (row bl t) (t - 2) : Int)),(5,[],iN t),(3,[],pT xw),(2,[],pT r)]) (nd := (fun _ => [])) kr (fun _ => kr) trivial ?_
     refine Lu (Eff.callA (.int .u32 (rotl (rg (row bl t) (t - 2)) 8192 524288 : Int)) rfl Tryz.func102 rfl rfl kr (fun w1 _ => rot13 _ w1 (row_lt bl t _))) ?_
     refine Lp 5 [] (some [2,3,5,8,9]) (fun _ => [((0 ≤ (rotl (rg (row bl t) (t - 2)) 32768 131072 : Int) ∧ (rotl (rg (row bl t) (t - 2)) 32768 131072 : Int) ≤ 4294967295) ∧ 0 ≤ (rotl (rg (row bl t) (t - 2)) 8192 524288 : Int) ∧ (rotl (rg (row bl t) (t - 2)) 8192 524288 : Int) ≤ 4294967295),(0 ≤ (10 : Int) ∧ 10 ≤ 32),((0 ≤ ((((rotl (rg (row bl t) (t - 2)) 32768 131072 : Int)).toNat ^^^ ((rotl (rg (row bl t) (t - 2)) 8192 524288 : Int)).toNat : Nat) : Int) ∧ ((((rotl (rg (row bl t) (t - 2)) 32768 131072 : Int)).toNat ^^^ ((rotl (rg (row bl t) (t - 2)) 8192 524288 : Int)).toNat : Nat) : Int) ≤ 4294967295) ∧ 0 ≤ ((rg (row bl t) (t - 2) : Int) / 1024) ∧ ((rg (row bl t) (t - 2) : Int) / 1024) ≤ 4294967295)]) ⟨⟨⟨Int.natCast_nonneg _,le_pow (b := 32) (rotl_lt (row_lt bl t _))⟩,⟨Int.natCast_nonneg _,le_pow (b := 32) (rotl_lt (row_lt bl t _))⟩⟩,om,⟨⟨Int.natCast_nonneg _,le_pow (b := 32) (Nat.xor_lt_two_pow (tn_lt (rotl_lt (row_lt bl t _))) (tn_lt (rotl_lt (row_lt bl t _))))⟩,⟨Int.natCast_nonneg _,le_pow (b := 32) (Nat.lt_of_le_of_lt (Nat.div_le_self _ _) (row_lt bl t _))⟩⟩,trivial⟩ ?_
     refine CfgL.done rfl ?_
     refine Cfg.begA rfl kr [(r,.cells (wv (List.replicate 64 0)) 157 (0,0))] ?_
     refine Ap [0,1,2,3,4,7,9,10,11] [] (some [2,3,5,85,86,89,92,96]) (bF 3743 16) (.cons _ (.cons_cons _ .slnil)) 7 (fun _ => [(i6 ((t : Int) - 7)),(iL ((t : Int) - 7) 64),(i6 ((t : Int) - 16)),(iL ((t : Int) - 16) 64)]) ⟨om,om,om,om,trivial⟩ ?_
     refine CfgA.two 5 12 kr (fuel' := 6) rfl ?_ ?_
     ·
      refine Iu rfl  (Eff.quiet (raw := false) (orc := some (.int .u32 (rg (row bl t) (t - 7) : Int))) (v := .int .u32 (rg (row bl t) (t - 7) : Int)) (nd := (fun S => [(cE S xw ((((t : Int) - 7)).toNat) (.int .u32 (rg (row bl t) (t - 7) : Int)))])) (fun _ => kr) ⟨(fun w1 h => h.ocell 0 rfl (by rw [show (((t : Int) - 7)).toNat = (t - 7) by omega]; exact wv_get (row_len bl t) om)),trivial⟩ kr) (fun _ _ => (.cons _ (.cons_cons _ .slnil))) ?_
      refine Ap [6,8] [] (some [2,3,5,85,93,96]) (tF 12 4) (.cons _ (.cons_cons _ .slnil)) 4 n0 trivial ?_
      refine Au 12 rfl 3  (Eff.quiet (raw := false) (orc := some (.int .u32 (rg (row bl t) (t - 16) : Int))) (v := .int .u32 (rg (row bl t) (t - 16) : Int)) (nd := (fun S => [(cE S xw ((((t : Int) - 16)).toNat) (.int .u32 (rg (row bl t) (t - 16) : Int)))])) (fun _ => kr) ⟨(fun w1 h => h.ocell 0 rfl (by rw [show (((t : Int) - 16)).toNat = (t - 16) by omega]; exact wv_get (row_len bl t) om)),trivial⟩ kr) (fun _ _ => (.cons _ (.cons_cons _ .slnil))) ?_
      refine Ap [13,14] [] (some [2,3,5,98,99]) (tF 15 1) (.cons _ (.cons_cons _ .slnil)) 1 (fun _ => [(iL (t : Int) 64)]) ⟨om,trivial⟩ ?_
      refine Au 15 rfl 0  (Eff.store1 (b := xw) (off := t) (v := .int .u32 (((((((((((((rotl (rg (row bl t) (t - 2)) 32768 131072 : Int)).toNat ^^^ ((rotl (rg (row bl t) (t - 2)) 8192 524288 : Int)).toNat : Nat) : Int)).toNat ^^^ (((rg (row bl t) (t - 2) : Int) / 1024)).toNat : Nat) : Int) + (rg (row bl t) (t - 7) : Int)) % 4294967296) + (((((((rotl (rg (row bl t) (t - 15)) 33554432 128 : Int)).toNat ^^^ ((rotl (rg (row bl t) (t - 15)) 16384 262144 : Int)).toNat : Nat) : Int)).toNat ^^^ (((rg (row bl t) (t - 15) : Int) / 8)).toNat : Nat) : Int)) % 4294967296) + (rg (row bl t) (t - 16) : Int)) % 4294967296)) rfl kr kr rfl kr 0 (cs := (wv (row bl t))) (e := 157) kr (by rw [wsize]; omega)) (fun _ _ => (.cons _ (.cons_cons _ .slnil))) ?_
      refine CfgA.done kr ?_
      refine Cg (Γ' := [(5,[],iN t),(3,[],pT xw),(2,[],pT r)]) ?_
      refine Rg [2,3,5] [] (fun _ => [(i6 ((t : Int) + 1))]) ⟨om,trivial⟩ ?_
      refine oB 0 rfl (show _ = (wv (row bl (t + 1))) from row_step bl t (wnext_hi om (wn_eq _ _ _ _))) ?_
      refine Cfg.again rfl (t + 1) ⟨by omega,by omega⟩ (by show 64 - (t + 1) < 64 - t; omega) (Conv.mk kr) (.cons_cons _ (.cons_cons _ .slnil))
     ·
      refine Iu rfl  (Eff.quiet (raw := false) (orc := some (.int .u32 (rg (row bl t) (t - 16) : Int))) (v := .int .u32 (rg (row bl t) (t - 16) : Int)) (nd := (fun S => [(cE S xw ((((t : Int) - 16)).toNat) (.int .u32 (rg (row bl t) (t - 16) : Int)))])) (fun _ => kr) ⟨(fun w1 h => h.ocell 0 rfl (by rw [show (((t : Int) - 16)).toNat = (t - 16) by omega]; exact wv_get (row_len bl t) om)),trivial⟩ kr) (fun _ _ => (.cons _ (.cons_cons _ .slnil))) ?_
      refine Au 5 rfl 5  (Eff.quiet (raw := false) (orc := some (.int .u32 (rg (row bl t) (t - 7) : Int))) (v := .int .u32 (rg (row bl t) (t - 7) : Int)) (nd := (fun S => [(cE S xw ((((t : Int) - 7)).toNat) (.int .u32 (rg (row bl t) (t - 7) : Int)))])) (fun _ => kr) ⟨(fun w1 h => h.ocell 0 rfl (by rw [show (((t : Int) - 7)).toNat = (t - 7) by omega]; exact wv_get (row_len bl t) om)),trivial⟩ kr) (fun _ _ => (.cons _ (.cons_cons _ .slnil))) ?_
      refine Ap [6,8,13,14] [] (some [2,3,5,98,99]) (tF 15 1) (.cons _ (.cons_cons _ .slnil)) 1 (fun _ => [(iL (t : Int) 64)]) ⟨om,trivial⟩ ?_
      refine Au 15 rfl 0  (Eff.store1 (b := xw) (off := t) (v := .int .u32 (((((((((((((rotl (rg (row bl t) (t - 2)) 32768 131072 : Int)).toNat ^^^ ((rotl (rg (row bl t) (t - 2)) 8192 524288 : Int)).toNat : Nat) : Int)).toNat ^^^ (((rg (row bl t) (t - 2) : Int) / 1024)).toNat : Nat) : Int) + (rg (row bl t) (t - 7) : Int)) % 4294967296) + (((((((rotl (rg (row bl t) (t - 15)) 33554432 128 : Int)).toNat ^^^ ((rotl (rg (row bl t) (t - 15)) 16384 262144 : Int)).toNat : Nat) : Int)).toNat ^^^ (((rg (row bl t) (t - 15) : Int) / 8)).toNat : Nat) : Int)) % 4294967296) + (rg (row bl t) (t - 16) : Int)) % 4294967296)) rfl kr kr rfl kr 0 (cs := (wv (row bl t))) (e := 157) kr (by rw [wsize]; omega)) (fun _ _ => (.cons _ (.cons_cons _ .slnil))) ?_
      refine CfgA.done kr ?_
      refine Cg (Γ' := [(5,[],iN t),(3,[],pT xw),(2,[],pT r)]) ?_
      refine Rg [2,3,5] [] (fun _ => [(i6 ((t : Int) + 1))]) ⟨om,trivial⟩ ?_
      refine oB 0 rfl (show _ = (wv (row bl (t + 1))) from row_step bl t (wnext_hi om (wn_eq _ _ _ _))) ?_
      refine Cfg.again rfl (t + 1) ⟨by omega,by omega⟩ (by show 64 - (t + 1) < 64 - t; omega) (Conv.mk kr) (.cons_cons _ (.cons_cons _ .slnil))
    ·have c2 := (dF c2r)
     refine Cfg.begL rfl ?_
     refine Lp 1 [(dS (.agg (wv (row bl t))))] (some [2,100]) (fun S => [(∀ w1,S w1 → (loadVar 157 ⟨xw,0,none⟩).run Tryz.prog w1 = .ok (.agg (wv (row bl t))) w1)]) ⟨(fun w1 h => h.oload 0 rfl Tryz.underlying157 rfl (n := 64) kr (wsize bl t)),trivial⟩ ?_
     refine Lu (Eff.storeN (b := r) (off := 0) (vs := (wv (row bl t))) (n := 64) rfl kr kr kr (wsize bl t) (all_wv _) 1 (cs := (wv (List.replicate 64 0))) (e := 157) kr (by rw [show wv (List.replicate 64 0) = wv (row bl 0) from rfl,wsize]; omega)) ?_
     refine oL 1 rfl (show _ = (wv (row bl t)) from spl_all ((wsize bl t).trans (wsize bl 0).symm)) ?_
     refine CfgL.done rfl ?_
     refine Cg (Γ' := [(2,[],pT r)]) ?_
     refine Cfg.ret rfl (rs := [.cell 2 157]) rfl [.agg (wv (row bl t))] ⟨⟨_,by kernel_rfl,(fun w1 h => h.oload 1 rfl Tryz.underlying157 rfl (n := 64) kr (wsize bl t))⟩,trivial⟩ (fun w1 hp => ?_)
     obtain rfl : t = 64 := by omega
     exact ⟨rfl,hp.ext⟩
theorem shaMix (b : Nat) (hs : List Nat) (bl : List UInt8) (held total : Nat) {kt : Array Value} {t0 : TypeId} {fr0 : Nat × Nat} (w : World) (hh : hs.length = 8) (hb : bl.length = 64) (hlt : ∀ i,rg hs i < 2 ^ 32) (hR : Has w [(0,.cells kt t0 fr0)]) (hS : w.heap[b]? = some (.cells (stC hs bl held total) 147 (0,0))) (hne : b ≠ 0) (hK : KT kt := by assumption) :
  Calls Tryz.prog 89 #[.pointer (some ⟨b,0,none⟩)] w fun e w' => e = .returned (.tuple #[]) ∧ Ext [b] w w' ∧ w'.heap[b]? = some (.cells (stC (mixF hs bl) bl held total) 147 (0,0)) := by
 refine enter [b] [(0,.cells kt t0 fr0)] [(b,.cells (stC hs bl held total) 147 (0,0))] Tryz.func89 rfl kr (HP.startM hR hS (by simpa using hne)) ?_
 refine Cfg.begL rfl ?_
 refine Lp 1 [] none n0 trivial ?_
 refine Lu (Eff.callA (.agg (wv (row bl 64))) rfl Tryz.func101 rfl rfl kr (fun w1 h => words b hs bl held total w1 hh hb (h.has (fun e he => he)))) ?_
 refine Le (Eff.alloc (z := (.agg (wv (List.replicate 64 0)))) rfl kr) ?_
 rintro xw ⟨hxw,nxw⟩
 refine Lu (Eff.storeN (b := xw) (off := 0) (vs := (wv (row bl 64))) (n := 64) rfl kr kr kr (wsize bl 64) (all_wv _) 0 (cs := (wv (List.replicate 64 0))) (e := 157) kr (by rw [show wv (List.replicate 64 0) = wv (row bl 0) from rfl,wsize]; omega)) ?_
 refine oL 0 rfl (show _ = (wv (row bl 64)) from spl_all ((wsize bl 64).trans (wsize bl 0).symm)) ?_
 refine CfgL.done rfl ?_
 refine Cg (Γ' := [(2,[],pT xw),(0,[],pT b)]) ?_
 refine Cfg.regD rfl kr [0,2,3,4,5,6] [dZ,dZ,dZ,dZ,(dS (.int .u32 (rg hs 0 : Int))),dZ,dZ,dZ,dZ,(dS (.int .u32 (rg hs 1 : Int))),dZ,dZ,dZ,dZ,(dS (.int .u32 (rg hs 2 : Int))),dZ,dZ,dZ,dZ,(dS (.int .u32 (rg hs 3 : Int)))] (Γ' := [(6,[],.int .u32 (rg hs 3 : Int)),(5,[],.int .u32 (rg hs 2 : Int)),(4,[],.int .u32 (rg hs 1 : Int)),(3,[],.int .u32 (rg hs 0 : Int)),(2,[],pT xw),(0,[],pT b)]) (nd := (fun S => [(iL (0 : Int) 8),(cE S b 0 (.int .u32 (rg hs 0 : Int))),(iL (1 : Int) 8),(cE S b 1 (.int .u32 (rg hs 1 : Int))),(iL (2 : Int) 8),(cE S b 2 (.int .u32 (rg hs 2 : Int))),(iL (3 : Int) 8),(cE S b 3 (.int .u32 (rg hs 3 : Int)))])) kr kr (fun _ => kr) ⟨om,(fun w1 h => h.ocell 1 rfl (st_sum hh om)),om,(fun w1 h => h.ocell 1 rfl (st_sum hh om)),om,(fun w1 h => h.ocell 1 rfl (st_sum hh om)),om,(fun w1 h => h.ocell 1 rfl (st_sum hh om)),trivial⟩ ?_
 refine Cfg.regD rfl kr [0,2,3,4,5,6,7,8,9,10] [dZ,dZ,dZ,dZ,(dS (.int .u32 (rg hs 4 : Int))),dZ,dZ,dZ,dZ,(dS (.int .u32 (rg hs 5 : Int))),dZ,dZ,dZ,dZ,(dS (.int .u32 (rg hs 6 : Int))),dZ,dZ,dZ,dZ,(dS (.int .u32 (rg hs 7 : Int)))] (Γ' := [(10,[],.int .u32 (rg hs 7 : Int)),(9,[],.int .u32 (rg hs 6 : Int)),(8,[],.int .u32 (rg hs 5 : Int)),(7,[],.int .u32 (rg hs 4 : Int)),(6,[],.int .u32 (rg hs 3 : Int)),(5,[],.int .u32 (rg hs 2 : Int)),(4,[],.int .u32 (rg hs 1 : Int)),(3,[],.int .u32 (rg hs 0 : Int)),(2,[],pT xw),(0,[],pT b)]) (nd := (fun S => [(iL (4 : Int) 8),(cE S b 4 (.int .u32 (rg hs 4 : Int))),(iL (5 : Int) 8),(cE S b 5 (.int .u32 (rg hs 5 : Int))),(iL (6 : Int) 8),(cE S b 6 (.int .u32 (rg hs 6 : Int))),(iL (7 : Int) 8),(cE S b 7 (.int .u32 (rg hs 7 : Int)))])) kr kr (fun _ => kr) ⟨om,(fun w1 h => h.ocell 1 rfl (st_sum hh om)),om,(fun w1 h => h.ocell 1 rfl (st_sum hh om)),om,(fun w1 h => h.ocell 1 rfl (st_sum hh om)),om,(fun w1 h => h.ocell 1 rfl (st_sum hh om)),trivial⟩ ?_
 refine Rq [0,2,3,4,5,6,7,8,9,10,62] ?_
 refine Cfg.loop rfl (ι := Nat) (fun (t : Nat) => [(62,[],iN t),(10,[],.int .u32 ((rv hs bl t).h : Int)),(9,[],.int .u32 ((rv hs bl t).g : Int)),(8,[],.int .u32 ((rv hs bl t).f : Int)),(7,[],.int .u32 ((rv hs bl t).e : Int)),(6,[],.int .u32 ((rv hs bl t).d : Int)),(5,[],.int .u32 ((rv hs bl t).c : Int)),(4,[],.int .u32 ((rv hs bl t).b : Int)),(3,[],.int .u32 ((rv hs bl t).a : Int)),(2,[],pT xw),(0,[],pT b)]) (fun (t : Nat) => [(xw,.cells (wv (row bl 64)) 157 (0,0)),(b,.cells (stC hs bl held total) 147 (0,0))]) (fun (t : Nat) => (t ≤ 64)) (fun (t : Nat) => 64 - t) 0 ?_ (Conv.mk kr) (.cons_cons _ (.cons_cons _ .slnil)) ?_
 ·exact Nat.zero_le _
 ·rintro t ht
  have ok := rv_ok hlt bl t
  refine Rq [0,2,3,4,5,6,7,8,9,10,62,63] ?_
  refine Cfg.cond rfl (b := (decide ((t : Int) < (64 : Int)))) kr (fun c1r => ?_) (fun c1r => ?_)
  ·have c1 := (dT c1r)
   refine Rq [0,2,3,4,5,6,7,8,9,10,11,62] ?_
   refine Cfg.begL rfl ?_
   refine Lp 1 [] none n0 trivial ?_
   refine Lu (Eff.callA (.int .u32 (rotl ((rv hs bl t).e) 67108864 64 : Int)) rfl Tryz.func102 rfl rfl kr (fun w1 _ => rot26 _ w1 ok.e)) ?_
   refine Lq 1 [0,2,3,4,5,6,7,8,9,10,11,62,66,67] ?_
   refine Lu (Eff.callA (.int .u32 (rotl ((rv hs bl t).e) 2097152 2048 : Int)) rfl Tryz.func102 rfl rfl kr (fun w1 _ => rot21 _ w1 ok.e)) ?_
   refine Lp 2 [] (some [0,2,3,4,5,6,7,8,9,10,11,62,69,70]) (fun _ => [((0 ≤ (rotl ((rv hs bl t).e) 67108864 64 : Int) ∧ (rotl ((rv hs bl t).e) 67108864 64 : Int) ≤ 4294967295) ∧ 0 ≤ (rotl ((rv hs bl t).e) 2097152 2048 : Int) ∧ (rotl ((rv hs bl t).e) 2097152 2048 : Int) ≤ 4294967295)]) ⟨⟨⟨Int.natCast_nonneg _,le_pow (b := 32) (rotl_lt ok.e)⟩,⟨Int.natCast_nonneg _,le_pow (b := 32) (rotl_lt ok.e)⟩⟩,trivial⟩ ?_
   refine Lu (Eff.callA (.int .u32 (rotl ((rv hs bl t).e) 128 33554432 : Int)) rfl Tryz.func102 rfl rfl kr (fun w1 _ => rot7 _ w1 ok.e)) ?_
   refine Lp 2 [] (some [0,2,3,4,5,6,7,8,9,10,11,12,62]) (fun _ => [((0 ≤ ((((rotl ((rv hs bl t).e) 67108864 64 : Int)).toNat ^^^ ((rotl ((rv hs bl t).e) 2097152 2048 : Int)).toNat : Nat) : Int) ∧ ((((rotl ((rv hs bl t).e) 67108864 64 : Int)).toNat ^^^ ((rotl ((rv hs bl t).e) 2097152 2048 : Int)).toNat : Nat) : Int) ≤ 4294967295) ∧ 0 ≤ (rotl ((rv hs bl t).e) 128 33554432 : Int) ∧ (rotl ((rv hs bl t).e) 128 33554432 : Int) ≤ 4294967295)]) ⟨⟨⟨Int.natCast_nonneg _,le_pow (b := 32) (Nat.xor_lt_two_pow (tn_lt (rotl_lt ok.e)) (tn_lt (rotl_lt ok.e)))⟩,⟨Int.natCast_nonneg _,le_pow (b := 32) (rotl_lt ok.e)⟩⟩,trivial⟩ ?_
   refine CfgL.done rfl ?_
   refine sU 12 (show (((((((rotl ((rv hs bl t).e) 67108864 64 : Int)).toNat ^^^ ((rotl ((rv hs bl t).e) 2097152 2048 : Int)).toNat : Nat) : Int)).toNat ^^^ ((rotl ((rv hs bl t).e) 128 33554432 : Int)).toNat : Nat) : Int) = (bigE (rv hs bl t).e : Int) from bigE_eq _) ?_
   refine Rg [0,2,3,4,5,6,7,8,9,10,11,12,13,62] [] (fun _ => [((0 ≤ ((rv hs bl t).e : Int) ∧ ((rv hs bl t).e : Int) ≤ 4294967295) ∧ 0 ≤ ((rv hs bl t).f : Int) ∧ ((rv hs bl t).f : Int) ≤ 4294967295),((0 ≤ (4294967295 : Int) ∧ (4294967295 : Int) ≤ 4294967295) ∧ 0 ≤ ((rv hs bl t).e : Int) ∧ ((rv hs bl t).e : Int) ≤ 4294967295),((0 ≤ ((4294967295 ^^^ (((rv hs bl t).e : Int)).toNat : Nat) : Int) ∧ ((4294967295 ^^^ (((rv hs bl t).e : Int)).toNat : Nat) : Int) ≤ 4294967295) ∧ 0 ≤ ((rv hs bl t).g : Int) ∧ ((rv hs bl t).g : Int) ≤ 4294967295),((0 ≤ (((((rv hs bl t).e : Int)).toNat &&& (((rv hs bl t).f : Int)).toNat : Nat) : Int) ∧ (((((rv hs bl t).e : Int)).toNat &&& (((rv hs bl t).f : Int)).toNat : Nat) : Int) ≤ 4294967295) ∧ 0 ≤ (((((4294967295 ^^^ (((rv hs bl t).e : Int)).toNat : Nat) : Int)).toNat &&& (((rv hs bl t).g : Int)).toNat : Nat) : Int) ∧ (((((4294967295 ^^^ (((rv hs bl t).e : Int)).toNat : Nat) : Int)).toNat &&& (((rv hs bl t).g : Int)).toNat : Nat) : Int) ≤ 4294967295)]) ⟨⟨⟨Int.natCast_nonneg _,le_pow (b := 32) ok.e⟩,⟨Int.natCast_nonneg _,le_pow (b := 32) ok.f⟩⟩,⟨⟨by omega,by omega⟩,⟨Int.natCast_nonneg _,le_pow (b := 32) ok.e⟩⟩,⟨⟨Int.natCast_nonneg _,le_pow (b := 32) (Nat.xor_lt_two_pow om (tn_lt ok.e))⟩,⟨Int.natCast_nonneg _,le_pow (b := 32) ok.g⟩⟩,⟨⟨Int.natCast_nonneg _,le_pow (b := 32) (Nat.and_lt_two_pow _ (tn_lt ok.f))⟩,⟨Int.natCast_nonneg _,le_pow (b := 32) (Nat.and_lt_two_pow _ (tn_lt ok.g))⟩⟩,trivial⟩ ?_
   refine sU 13 (show ((((((((rv hs bl t).e : Int)).toNat &&& (((rv hs bl t).f : Int)).toNat : Nat) : Int)).toNat ^^^ ((((((4294967295 ^^^ (((rv hs bl t).e : Int)).toNat : Nat) : Int)).toNat &&& (((rv hs bl t).g : Int)).toNat : Nat) : Int)).toNat : Nat) : Int) = (choi (rv hs bl t).e (rv hs bl t).f (rv hs bl t).g : Int) from choi_eq _ _ _) ?_
   refine Cfg.regD rfl kr [0,2,3,4,5,6,7,8,9,14,62] [dZ,dZ,dZ,dZ,dZ,dZ,dZ,(dS (.int .u32 (rg Kc t : Int))),dZ,dZ,dZ,(dS (.int .u32 (rg (row bl 64) t : Int)))] (Γ' := [(14,[],.int .u32 ((((((((((rv hs bl t).h : Int) + (bigE (rv hs bl t).e : Int)) % 4294967296) + (choi (rv hs bl t).e (rv hs bl t).f (rv hs bl t).g : Int)) % 4294967296) + (rg Kc t : Int)) % 4294967296) + (rg (row bl 64) t : Int)) % 4294967296)),(62,[],iN t),(9,[],.int .u32 ((rv hs bl t).g : Int)),(8,[],.int .u32 ((rv hs bl t).f : Int)),(7,[],.int .u32 ((rv hs bl t).e : Int)),(6,[],.int .u32 ((rv hs bl t).d : Int)),(5,[],.int .u32 ((rv hs bl t).c : Int)),(4,[],.int .u32 ((rv hs bl t).b : Int)),(3,[],.int .u32 ((rv hs bl t).a : Int)),(2,[],pT xw),(0,[],pT b)]) (nd := (fun S => [(iL (t : Int) 64),(cE S 0 t (.int .u32 (rg Kc t : Int))),(iL (t : Int) 64),(cE S xw t (.int .u32 (rg (row bl 64) t : Int)))])) kr kr (fun _ => kr) ⟨om,(fun w1 h => h.rcell 0 rfl (hK _ om)),om,(oC 0 rfl (wv_get (row_len bl 64) om)),trivial⟩ ?_
   refine sU 14 (show ((((((((((rv hs bl t).h : Int) + (bigE (rv hs bl t).e : Int)) % 4294967296) + (choi (rv hs bl t).e (rv hs bl t).f (rv hs bl t).g : Int)) % 4294967296) + (rg Kc t : Int)) % 4294967296) + (rg (row bl 64) t : Int)) % 4294967296) = (frst (rg Kc t) (rg (row bl 64) t) (rv hs bl t) : Int) from frst_eq _ _ _) ?_
   refine Cfg.begL rfl ?_
   refine Lp 1 [] none n0 trivial ?_
   refine Lu (Eff.callA (.int .u32 (rotl ((rv hs bl t).a) 1073741824 4 : Int)) rfl Tryz.func102 rfl rfl kr (fun w1 _ => rot30 _ w1 ok.a)) ?_
   refine Lq 1 [0,2,3,4,5,6,7,8,9,14,62,95,96] ?_
   refine Lu (Eff.callA (.int .u32 (rotl ((rv hs bl t).a) 524288 8192 : Int)) rfl Tryz.func102 rfl rfl kr (fun w1 _ => rot19 _ w1 ok.a)) ?_
   refine Lp 2 [] (some [0,2,3,4,5,6,7,8,9,14,62,98,99]) (fun _ => [((0 ≤ (rotl ((rv hs bl t).a) 1073741824 4 : Int) ∧ (rotl ((rv hs bl t).a) 1073741824 4 : Int) ≤ 4294967295) ∧ 0 ≤ (rotl ((rv hs bl t).a) 524288 8192 : Int) ∧ (rotl ((rv hs bl t).a) 524288 8192 : Int) ≤ 4294967295)]) ⟨⟨⟨Int.natCast_nonneg _,le_pow (b := 32) (rotl_lt ok.a)⟩,⟨Int.natCast_nonneg _,le_pow (b := 32) (rotl_lt ok.a)⟩⟩,trivial⟩ ?_
   refine Lu (Eff.callA (.int .u32 (rotl ((rv hs bl t).a) 1024 4194304 : Int)) rfl Tryz.func102 rfl rfl kr (fun w1 _ => rot10 _ w1 ok.a)) ?_
   refine Lp 2 [] (some [0,2,3,4,5,6,7,8,9,14,15,62]) (fun _ => [((0 ≤ ((((rotl ((rv hs bl t).a) 1073741824 4 : Int)).toNat ^^^ ((rotl ((rv hs bl t).a) 524288 8192 : Int)).toNat : Nat) : Int) ∧ ((((rotl ((rv hs bl t).a) 1073741824 4 : Int)).toNat ^^^ ((rotl ((rv hs bl t).a) 524288 8192 : Int)).toNat : Nat) : Int) ≤ 4294967295) ∧ 0 ≤ (rotl ((rv hs bl t).a) 1024 4194304 : Int) ∧ (rotl ((rv hs bl t).a) 1024 4194304 : Int) ≤ 4294967295)]) ⟨⟨⟨Int.natCast_nonneg _,le_pow (b := 32) (Nat.xor_lt_two_pow (tn_lt (rotl_lt ok.a)) (tn_lt (rotl_lt ok.a)))⟩,⟨Int.natCast_nonneg _,le_pow (b := 32) (rotl_lt ok.a)⟩⟩,trivial⟩ ?_
   refine CfgL.done rfl ?_
   refine sU 15 (show (((((((rotl ((rv hs bl t).a) 1073741824 4 : Int)).toNat ^^^ ((rotl ((rv hs bl t).a) 524288 8192 : Int)).toNat : Nat) : Int)).toNat ^^^ ((rotl ((rv hs bl t).a) 1024 4194304 : Int)).toNat : Nat) : Int) = (bigA (rv hs bl t).a : Int) from bigA_eq _) ?_
   refine Rg [0,2,3,4,5,6,7,8,9,14,15,16,62] [] (fun _ => [((0 ≤ ((rv hs bl t).a : Int) ∧ ((rv hs bl t).a : Int) ≤ 4294967295) ∧ 0 ≤ ((rv hs bl t).b : Int) ∧ ((rv hs bl t).b : Int) ≤ 4294967295),((0 ≤ ((rv hs bl t).a : Int) ∧ ((rv hs bl t).a : Int) ≤ 4294967295) ∧ 0 ≤ ((rv hs bl t).c : Int) ∧ ((rv hs bl t).c : Int) ≤ 4294967295),((0 ≤ (((((rv hs bl t).a : Int)).toNat &&& (((rv hs bl t).b : Int)).toNat : Nat) : Int) ∧ (((((rv hs bl t).a : Int)).toNat &&& (((rv hs bl t).b : Int)).toNat : Nat) : Int) ≤ 4294967295) ∧ 0 ≤ (((((rv hs bl t).a : Int)).toNat &&& (((rv hs bl t).c : Int)).toNat : Nat) : Int) ∧ (((((rv hs bl t).a : Int)).toNat &&& (((rv hs bl t).c : Int)).toNat : Nat) : Int) ≤ 4294967295),((0 ≤ ((rv hs bl t).b : Int) ∧ ((rv hs bl t).b : Int) ≤ 4294967295) ∧ 0 ≤ ((rv hs bl t).c : Int) ∧ ((rv hs bl t).c : Int) ≤ 4294967295),((0 ≤ ((((((((rv hs bl t).a : Int)).toNat &&& (((rv hs bl t).b : Int)).toNat : Nat) : Int)).toNat ^^^ ((((((rv hs bl t).a : Int)).toNat &&& (((rv hs bl t).c : Int)).toNat : Nat) : Int)).toNat : Nat) : Int) ∧ ((((((((rv hs bl t).a : Int)).toNat &&& (((rv hs bl t).b : Int)).toNat : Nat) : Int)).toNat ^^^ ((((((rv hs bl t).a : Int)).toNat &&& (((rv hs bl t).c : Int)).toNat : Nat) : Int)).toNat : Nat) : Int) ≤ 4294967295) ∧ 0 ≤ (((((rv hs bl t).b : Int)).toNat &&& (((rv hs bl t).c : Int)).toNat : Nat) : Int) ∧ (((((rv hs bl t).b : Int)).toNat &&& (((rv hs bl t).c : Int)).toNat : Nat) : Int) ≤ 4294967295)]) ⟨⟨⟨Int.natCast_nonneg _,le_pow (b := 32) ok.a⟩,⟨Int.natCast_nonneg _,le_pow (b := 32) ok.b⟩⟩,⟨⟨Int.natCast_nonneg _,le_pow (b := 32) ok.a⟩,⟨Int.natCast_nonneg _,le_pow (b := 32) ok.c⟩⟩,⟨⟨Int.natCast_nonneg _,le_pow (b := 32) (Nat.and_lt_two_pow _ (tn_lt ok.b))⟩,⟨Int.natCast_nonneg _,le_pow (b := 32) (Nat.and_lt_two_pow _ (tn_lt ok.c))⟩⟩,⟨⟨Int.natCast_nonneg _,le_pow (b := 32) ok.b⟩,⟨Int.natCast_nonneg _,le_pow (b := 32) ok.c⟩⟩,⟨⟨Int.natCast_nonneg _,le_pow (b := 32) (Nat.xor_lt_two_pow (tn_lt (Nat.and_lt_two_pow _ (tn_lt ok.b))) (tn_lt (Nat.and_lt_two_pow _ (tn_lt ok.c))))⟩,⟨Int.natCast_nonneg _,le_pow (b := 32) (Nat.and_lt_two_pow _ (tn_lt ok.c))⟩⟩,trivial⟩ ?_
   refine sU 16 (show (((((((((((rv hs bl t).a : Int)).toNat &&& (((rv hs bl t).b : Int)).toNat : Nat) : Int)).toNat ^^^ ((((((rv hs bl t).a : Int)).toNat &&& (((rv hs bl t).c : Int)).toNat : Nat) : Int)).toNat : Nat) : Int)).toNat ^^^ ((((((rv hs bl t).b : Int)).toNat &&& (((rv hs bl t).c : Int)).toNat : Nat) : Int)).toNat : Nat) : Int) = (most (rv hs bl t).a (rv hs bl t).b (rv hs bl t).c : Int) from most_eq _ _ _) ?_
   refine Rq [0,2,3,4,5,6,7,8,9,14,17,62] ?_
   refine sU 17 (show (((bigA (rv hs bl t).a : Int) + (most (rv hs bl t).a (rv hs bl t).b (rv hs bl t).c : Int)) % 4294967296) = (scnd (rv hs bl t) : Int) from scnd_eq _) ?_
   refine Rq [0,2,3,4,5,7,8,9,10,14,17,62] ?_
   refine Rq [0,2,3,4,5,6,7,8,9,10,62] ?_
   refine Rg [0,2,3,4,5,6,7,8,9,10,62] [] (fun _ => [(i6 ((t : Int) + 1))]) ⟨om,trivial⟩ ?_
   refine sU 3 (show (((frst (rg Kc t) (rg (row bl 64) t) (rv hs bl t) : Int) + (scnd (rv hs bl t) : Int)) % 4294967296) = ((rv hs bl (t + 1)).a : Int) from rv_a hs bl t) ?_
   refine sU 4 (show ((rv hs bl t).a : Int) = ((rv hs bl (t + 1)).b : Int) from rv_b hs bl t) ?_
   refine sU 5 (show ((rv hs bl t).b : Int) = ((rv hs bl (t + 1)).c : Int) from rv_c hs bl t) ?_
   refine sU 6 (show ((rv hs bl t).c : Int) = ((rv hs bl (t + 1)).d : Int) from rv_d hs bl t) ?_
   refine sU 7 (show ((((rv hs bl t).d : Int) + (frst (rg Kc t) (rg (row bl 64) t) (rv hs bl t) : Int)) % 4294967296) = ((rv hs bl (t + 1)).e : Int) from rv_e hs bl t) ?_
   refine sU 8 (show ((rv hs bl t).e : Int) = ((rv hs bl (t + 1)).f : Int) from rv_f hs bl t) ?_
   refine sU 9 (show ((rv hs bl t).f : Int) = ((rv hs bl (t + 1)).g : Int) from rv_g hs bl t) ?_
   refine sU 10 (show ((rv hs bl t).g : Int) = ((rv hs bl (t + 1)).h : Int) from rv_h hs bl t) ?_
   refine Cfg.again rfl (t + 1) (by show t + 1 ≤ 64; omega) (by show 64 - (t + 1) < 64 - t; omega) (Conv.mk kr) (.cons_cons _ (.cons_cons _ .slnil))
  ·have c1 := (dF c1r)
   refine Rg [0,137,138] [dZ,dZ,dZ,dZ,dZ,dZ,dZ,dZ,(dS (.agg (wv (w8l (rv hs bl t)))))] (fun S => [(∀ w1,S w1 → (Instr.build 145 #[(0,.int .u32 ((rv hs bl t).a : Int)),(1,.int .u32 ((rv hs bl t).b : Int)),(2,.int .u32 ((rv hs bl t).c : Int)),(3,.int .u32 ((rv hs bl t).d : Int)),(4,.int .u32 ((rv hs bl t).e : Int)),(5,.int .u32 ((rv hs bl t).f : Int)),(6,.int .u32 ((rv hs bl t).g : Int)),(7,.int .u32 ((rv hs bl t).h : Int))]).run Tryz.prog w1 = .ok (.agg (wv (w8l (rv hs bl t)))) w1)]) ⟨(fun _ _ => kr),trivial⟩ ?_
   refine Cfg.loop rfl (ι := Nat) (fun (k : Nat) => [(138,[],iN k),(137,[],.agg (wv (w8l (rv hs bl t)))),(0,[],pT b)]) (fun (k : Nat) => [(xw,.cells (wv (row bl 64)) 157 (0,0)),(b,.cells (stC (sm hs (w8l (rv hs bl t)) k) bl held total) 147 (0,0))]) (fun (k : Nat) => (k ≤ 8)) (fun (k : Nat) => 8 - k) 0 ?_ (Conv.mk kr) (.cons_cons _ (.cons_cons _ .slnil)) ?_
   ·exact Nat.zero_le _
   ·rintro k hk
    refine Rq [0,137,138,139] ?_
    refine Cfg.cond rfl (b := (decide ((k : Int) < (8 : Int)))) kr (fun c2r => ?_) (fun c2r => ?_)
    ·have c2 := (dT c2r)
     refine Rg [0,18,19,137,138] [dZ,(dS (.int .u32 (rg (w8l (rv hs bl t)) k : Int)))] (fun _ => [(iL (k : Int) 8),(((wv (w8l (rv hs bl t))))[k]? = some (.int .u32 (rg (w8l (rv hs bl t)) k : Int)))]) ⟨om,(wv_get (w8l_len _) om),trivial⟩ ?_
     refine Cfg.begA rfl kr [(xw,.cells (wv (row bl 64)) 157 (0,0))] ?_
     refine Ap [0,1,2,3,4,6,8,9] [] (some [0,137,138,143,146,148,151]) (bF 863 12) (.cons_cons _ (.cons _ .slnil)) 4 (fun _ => [(iL (k : Int) 8)]) ⟨om,trivial⟩ ?_
     refine Au 5 rfl 3  (Eff.quiet (raw := false) (orc := some (.int .u32 (rg (sm hs (w8l (rv hs bl t)) k) k : Int))) (v := .int .u32 (rg (sm hs (w8l (rv hs bl t)) k) k : Int)) (nd := (fun S => [(cE S b k (.int .u32 (rg (sm hs (w8l (rv hs bl t)) k) k : Int)))])) (fun _ => kr) ⟨(fun w1 h => h.ocell 1 rfl (st_sum (sm_len _ hh k) om)),trivial⟩ kr) (fun _ _ => (.cons_cons _ (.cons _ .slnil))) ?_
     refine Ap [7,10] [] (some [0,137,138,149,152]) (tF 11 1) (.cons_cons _ (.cons _ .slnil)) 1 (fun _ => [(iL (k : Int) 8)]) ⟨om,trivial⟩ ?_
     refine Au 11 rfl 0  (Eff.store1 (b := b) (off := k) (v := .int .u32 (((rg (sm hs (w8l (rv hs bl t)) k) k : Int) + (rg (w8l (rv hs bl t)) k : Int)) % 4294967296)) rfl kr kr rfl kr 1 (cs := (stC (sm hs (w8l (rv hs bl t)) k) bl held total)) (e := 147) kr (by rw [st_size (sm_len _ hh k) hb]; omega)) (fun _ _ => (.cons_cons _ (.cons _ .slnil))) ?_
     refine CfgA.done kr ?_
     refine Cg (Γ' := [(138,[],iN k),(137,[],.agg (wv (w8l (rv hs bl t)))),(0,[],pT b)]) ?_
     refine Rg [0,137,138] [] (fun _ => [(i6 ((k : Int) + 1))]) ⟨om,trivial⟩ ?_
     refine oB 1 rfl (show _ = (stC (sm hs (w8l (rv hs bl t)) (k + 1)) bl held total) from sm_step hh om) ?_
     refine Cfg.again rfl (k + 1) (by show k + 1 ≤ 8; omega) (by show 8 - (k + 1) < 8 - k; omega) (Conv.mk kr) (.cons_cons _ (.cons_cons _ .slnil))
    ·have c2 := (dF c2r)
     refine Cfg.fin rfl (rs := []) rfl [] trivial (fun w1 hp => ?_)
     obtain rfl : t = 64 := by omega
     obtain rfl : k = 8 := by omega
     exact ⟨rfl,hp.ext,hp.own (b,_) (List.mem_cons_of_mem _ mH)⟩
theorem shaWrite (b : Nat) (z : Sh) (total : Nat) (s : ByteArray) {kt : Array Value} {t0 : TypeId} {fr0 : Nat × Nat} (w : World) (hx : z.Ok) (hR : Has w [(0,.cells kt t0 fr0)]) (hS : w.heap[b]? = some (.cells (stC z.hs z.bl z.held total) 147 (0,0))) (hne : b ≠ 0) (hK : KT kt := by assumption) :
  Calls Tryz.prog 73 #[.pointer (some ⟨b,0,none⟩),.string s] w fun e w' => e = .returned (.tuple #[]) ∧ Ext [b] w w' ∧ w'.heap[b]? = some (.cells (stC (feed z s.data.toList).hs (feed z s.data.toList).bl (feed z s.data.toList).held ((total + s.size) % 18446744073709551616)) 147 (0,0)) := by
 refine enter [b] [(0,.cells kt t0 fr0)] [(b,.cells (stC z.hs z.bl z.held total) 147 (0,0))] Tryz.func73 rfl kr (HP.startM hR hS (by simpa using hne)) ?_
 refine Cfg.begL rfl ?_
 refine Lp 10 [dZ,dZ,dZ,(dS (.int .u64 (total : Int)))] (some [0,1,12,14]) (fun S => [(cE S b 73 (.int .u64 (total : Int)))]) ⟨(fun w1 h => h.ocell 0 rfl (st_total hx.hh hx.hb)),trivial⟩ ?_
 refine Lu (Eff.store1 (b := b) (off := 73) (v := .int .u64 (((total : Int) + ((s.size : Int) % 18446744073709551616)) % 18446744073709551616)) rfl kr kr rfl kr 0 (cs := (stC z.hs z.bl z.held total)) (e := 147) kr (by rw [st_size hx.hh hx.hb]; omega)) ?_
 refine CfgL.done rfl ?_
 refine Cg (Γ' := [(0,[],pT b),(1,[],.string s)]) ?_
 refine oB 0 rfl (show _ = (stC z.hs z.bl z.held ((total + s.size) % 18446744073709551616)) from st_setTotal hx.hh hx.hb om) ?_
 refine Cfg.loop rfl (ι := ByteArray × Sh) (fun (xz : ByteArray × Sh) => match xz with | (p,y) => [(0,[],pT b),(1,[],.string p)]) (fun (xz : ByteArray × Sh) => match xz with | (p,y) => [(b,.cells (stC y.hs y.bl y.held ((total + s.size) % 18446744073709551616)) 147 (0,0))]) (fun (xz : ByteArray × Sh) => match xz with | (p,y) => (y.Ok) ∧ (feed y p.data.toList = feed z s.data.toList)) (fun (xz : ByteArray × Sh) => match xz with | (p,y) => p.size) (s,z) ?_ (Conv.mk kr) (.cons_cons _ .slnil) ?_
 ·exact ⟨hx,rfl⟩
 ·rintro ⟨p,y⟩ ⟨oky,hf⟩
  obtain ⟨hs,bl,held⟩ := y
  obtain ⟨hh,hb,hlt,hld⟩ := oky
  dsimp only at hh hb hlt hld
  have hcn : cn p held = min p.size (64 - held) := rfl
  refine Rq [0,1,17] ?_
  refine Cfg.cond rfl (b := (decide ((p.size : Int) > (0 : Int)))) kr (fun c1r => ?_) (fun c1r => ?_)
  ·have c1 := (dT c1r)
   refine Cfg.begA rfl kr [] ?_
   refine Ap [0,1,2,3,4,5,8] [] (some [0,1,20,23,26]) (bF 319 11) (.cons _ .slnil) 4 n0 trivial ?_
   refine Au 6 rfl 3  (Eff.quiet (raw := false) (orc := some (iN held)) (v := iN held) (nd := (fun S => [(cE S b 72 (iN held))])) (fun _ => kr) ⟨(fun w1 h => h.ocell 0 rfl (st_held hh hb)),trivial⟩ kr) (fun _ _ => List.nil_sublist _) ?_
   refine Ap [7] [] (some [0,1,25,26]) (tF 9 2) (.cons _ .slnil) 2 (fun _ => [(0 ≤ (held : Int)),(held ≤ 64 ∧ 64 ≤ 64)]) ⟨om,om,trivial⟩ ?_
   refine Au 9 rfl 1  (Eff.copyS rfl Tryz.underlying89 kr (b := b) (off := (if 64 = held then 8 else (addO 8 held))) (dl := ((64 - held))) (c := ((64 - held))) kr (s := p) kr 0 (cs := (stC hs bl held ((total + s.size) % 18446744073709551616))) (te := 147) kr (cn p held) rfl (by rw [off_eq hld,st_size hh hb]; omega)) (fun _ _ => List.nil_sublist _) ?_
   refine Ap [10] [] (some [0,1,4]) (tF 11 0) (.cons _ .slnil) 0 n0 trivial ?_
   refine CfgA.done kr ?_
   refine oB 0 rfl (show _ = (stC hs (lay bl held (p.data.toList.take (cn p held))) held ((total + s.size) % 18446744073709551616)) from by rw [off_eq hld]; exact spl_lay _ hh hb (by rw [part_len om]; omega)) ?_
   refine Rg [0,1,4] [] (fun _ => [(0 ≤ ((cn p held) : Int)),(((cn p held)) ≤ p.size ∧ p.size ≤ p.size)]) ⟨om,om,trivial⟩ ?_
   refine Cfg.begL rfl ?_
   refine Lp 8 [dZ,dZ,dZ,(dS (iN held))] (some [0,1,36,38]) (fun S => [(cE S b 72 (iN held)),(i6 ((held : Int) + ((cn p held) : Int)))]) ⟨(fun w1 h => h.ocell 0 rfl (st_held hh ((lay_len _ _ _).trans hb))),om,trivial⟩ ?_
   refine Lu (Eff.store1 (b := b) (off := 72) (v := .int .i64 ((held : Int) + ((cn p held) : Int))) rfl kr kr rfl kr 0 (cs := (stC hs (lay bl held (p.data.toList.take (cn p held))) held ((total + s.size) % 18446744073709551616))) (e := 147) kr (by rw [st_size hh ((lay_len _ _ _).trans hb)]; omega)) ?_
   refine CfgL.done rfl ?_
   refine Cg (Γ' := [(1,[],.string (p.extract (((cn p held))) p.size)),(0,[],pT b)]) ?_
   refine oB 0 rfl (show _ = (stC hs (lay bl held (p.data.toList.take (cn p held))) (held + (cn p held)) ((total + s.size) % 18446744073709551616)) from st_setHeld hh ((lay_len _ _ _).trans hb) om) ?_
   refine Rg [0,1,43] [dZ,dZ,dZ,(dS (.int .i64 ((held + (cn p held)) : Int)))] (fun S => [(cE S b 72 (.int .i64 ((held + (cn p held)) : Int)))]) ⟨(fun w1 h => h.ocell 0 rfl (st_held hh ((lay_len _ _ _).trans hb))),trivial⟩ ?_
   refine Cfg.cond rfl (b := (((held + (cn p held)) : Int) == (64 : Int))) kr (fun c2r => ?_) (fun c2r => ?_)
   ·have c2 := (beq_iff_eq.1 c2r)
    refine Cfg.begL rfl ?_
    refine Lq 1 [0,1,44] ?_
    refine Lu (Eff.callM (.tuple #[]) 0 (b := b) (ob := .cells (stC hs (lay bl held (p.data.toList.take (cn p held))) (held + (cn p held)) ((total + s.size) % 18446744073709551616)) 147 (0,0)) (.cells (stC (mixF hs (lay bl held (p.data.toList.take (cn p held)))) (lay bl held (p.data.toList.take (cn p held))) (held + (cn p held)) ((total + s.size) % 18446744073709551616)) 147 (0,0)) rfl Tryz.func89 rfl rfl kr kr (fun w1 h => shaMix b hs (lay bl held (p.data.toList.take (cn p held))) (held + (cn p held)) ((total + s.size) % 18446744073709551616) w1 hh ((lay_len _ _ _).trans hb) hlt (h.hasR (fun e he => he)) (h.own _ mH) hne)) ?_
    refine CfgL.done rfl ?_
    refine Cg (Γ' := [(1,[],.string (p.extract (((cn p held))) p.size)),(0,[],pT b)]) ?_
    refine Cfg.begL rfl ?_
    refine Lq 3 [0,1,48] ?_
    refine Lu (Eff.store1 (b := b) (off := 72) (v := .int .i64 0) rfl kr kr rfl kr 0 (cs := (stC (mixF hs (lay bl held (p.data.toList.take (cn p held)))) (lay bl held (p.data.toList.take (cn p held))) (held + (cn p held)) ((total + s.size) % 18446744073709551616))) (e := 147) kr (by rw [st_size (mixF_len _ hh) ((lay_len _ _ _).trans hb)]; omega)) ?_
    refine CfgL.done rfl ?_
    refine Cg (Γ' := [(1,[],.string (p.extract (((cn p held))) p.size)),(0,[],pT b)]) ?_
    have hfull : held + (cn p held) = 64 := by omega
    have hfd := feed_full (p.data.toList.take (cn p held)) hs bl held hld (by rw [part_len om]; omega)
    refine oB 0 rfl (show _ = (stC (mixF hs (lay bl held (p.data.toList.take (cn p held)))) (lay bl held (p.data.toList.take (cn p held))) 0 ((total + s.size) % 18446744073709551616)) from st_setHeld (mixF_len _ hh) ((lay_len _ _ _).trans hb) rfl) ?_
    refine Cfg.again rfl (p.extract (cn p held) p.size,⟨mixF hs (lay bl held (p.data.toList.take (cn p held))),(lay bl held (p.data.toList.take (cn p held))),0⟩) ⟨by rw [← hfd]; exact feed_ok _ ⟨hh,hb,hlt,hld⟩,by rw [← hfd,feed_ext]; exact hf⟩ (by show (p.extract (cn p held) p.size).size < p.size; rw [ext_size _ _ om]; omega) (Conv.mk kr) (.cons_cons _ .slnil)
   ·have c2 := (beq_eq_false_iff_ne.1 c2r)
    have hpart : held + (cn p held) < 64 := by omega
    have hfd := feed_part (p.data.toList.take (cn p held)) hs bl held (by rw [part_len om]; omega)
    rw [part_len om] at hfd
    refine Cfg.again rfl (p.extract (cn p held) p.size,⟨hs,(lay bl held (p.data.toList.take (cn p held))),held + (cn p held)⟩) ⟨by rw [← hfd]; exact feed_ok _ ⟨hh,hb,hlt,hld⟩,by rw [← hfd,feed_ext]; exact hf⟩ (by show (p.extract (cn p held) p.size).size < p.size; rw [ext_size _ _ om]; omega) (Conv.mk kr) (.cons_cons _ .slnil)
  ·have c1 := (dF c1r)
   refine Cfg.fin rfl (rs := []) rfl [] trivial (fun w1 hp => ?_)
   have hp0 : p.size = 0 := by omega
   have hnil : p.data.toList = [] := List.eq_nil_of_length_eq_zero (by simpa using hp0)
   rw [hnil,feed_nil] at hf
   rw [← hf]
   exact ⟨rfl,hp.ext,hp.own (b,_) mH⟩
theorem shaWrite1 (b : Nat) (z : Sh) (total : Nat) (c : UInt8) {kt : Array Value} {t0 : TypeId} {fr0 : Nat × Nat} (w : World) (hx : z.Ok) (hR : Has w [(0,.cells kt t0 fr0)]) (hS : w.heap[b]? = some (.cells (stC z.hs z.bl z.held total) 147 (0,0))) (hne : b ≠ 0) (hK : KT kt := by assumption) :
  Calls Tryz.prog 73 #[.pointer (some ⟨b,0,none⟩),.string ⟨#[c]⟩] w fun e w' => e = .returned (.tuple #[]) ∧ Ext [b] w w' ∧ w'.heap[b]? = some (.cells (stC (feedB z c).hs (feedB z c).bl (feedB z c).held ((total + 1) % 18446744073709551616)) 147 (0,0)) :=
 shaWrite b z total ⟨#[c]⟩ w hx hR hS hne
theorem shaEndC (b : Nat) (z : Sh) (total : Nat) {kt : Array Value} {t0 : TypeId} {fr0 : Nat × Nat} (w : World) (hx : z.Ok) (hR : Has w [(0,.cells kt t0 fr0)]) (hS : w.heap[b]? = some (.cells (stC z.hs z.bl z.held total) 147 (0,0))) (hne : b ≠ 0) (hK : KT kt := by assumption) :
  Calls Tryz.prog 74 #[.pointer (some ⟨b,0,none⟩)] w fun e w' => e = .returned (.agg (bv (shaEnd z total))) ∧ Ext [b] w w' := by
 refine enter [b] [(0,.cells kt t0 fr0)] [(b,.cells (stC z.hs z.bl z.held total) 147 (0,0))] Tryz.func74 rfl kr (HP.startM hR hS (by simpa using hne)) ?_
 refine Cfg.begL rfl ?_
 refine Le (Eff.alloc (z := (.agg (bv (List.replicate 32 0)))) rfl kr) ?_
 rintro r ⟨hr,nr⟩
 refine CfgL.done rfl ?_
 refine Rg [0,2,3] [dZ,dZ,dZ,(dS (.int .u64 (total : Int)))] (fun S => [(cE S b 73 (.int .u64 (total : Int)))]) ⟨(fun w1 h => h.ocell 1 rfl (st_total hx.hh hx.hb)),trivial⟩ ?_
 refine Cfg.setS 3 (congrArg (fun (xq : Int) => (.int .u64 xq : Value)) (show (((total : Int) * 8) % 18446744073709551616) = (lb total : Int) from lb_eq total)) ?_
 refine Cfg.begL rfl ?_
 refine Lp 1 [] none n0 trivial ?_
 refine Lu (Eff.callM (.tuple #[]) 1 (b := b) (ob := .cells (stC z.hs z.bl z.held total) 147 (0,0)) (.cells (stC (feedB z 128).hs (feedB z 128).bl (feedB z 128).held ((total + 1) % 18446744073709551616)) 147 (0,0)) rfl Tryz.func73 rfl rfl kr kr (fun w1 h => shaWrite1 b z total 128 w1 hx (h.hasR (fun e he => he)) (h.own _ (mG 1 rfl)) hne)) ?_
 refine CfgL.done rfl ?_
 refine Cg (Γ' := [(3,[],.int .u64 (lb total : Int)),(2,[],pT r),(0,[],pT b)]) ?_
 refine oB 1 rfl (show _ = (stC (pz z 0).hs (pz z 0).bl (pz z 0).held (tj total 0)) from by rw [pz_zero,tj_zero]) ?_
 refine Cfg.loop rfl (ι := Nat) (fun (j : Nat) => [(3,[],.int .u64 (lb total : Int)),(2,[],pT r),(0,[],pT b)]) (fun (j : Nat) => [(r,.cells (bv (List.replicate 32 0)) 30 (0,0)),(b,.cells (stC (pz z j).hs (pz z j).bl (pz z j).held (tj total j)) 147 (0,0))]) (fun (j : Nat) => (j ≤ padN z)) (fun (j : Nat) => padN z - j) 0 ?_ (Conv.mk kr) (.cons_cons _ (.cons_cons _ .slnil)) ?_
 ·exact Nat.zero_le _
 ·rintro j hj
  refine Rg [0,2,3,20] [dZ,dZ,dZ,(dS (.int .i64 ((pz z j).held : Int)))] (fun S => [(cE S b 72 (.int .i64 ((pz z j).held : Int)))]) ⟨(fun w1 h => h.ocell 1 rfl (st_held (pz_ok hx j).hh (pz_ok hx j).hb)),trivial⟩ ?_
  refine Cfg.cond rfl (b := (((pz z j).held : Int) != (56 : Int))) kr (fun c1r => ?_) (fun c1r => ?_)
  ·have c1 := (bne_iff_ne.1 c1r)
   refine Cfg.begL rfl ?_
   refine Lq 1 [0,2,3,21] ?_
   refine Lu (Eff.callM (.tuple #[]) 1 (b := b) (ob := .cells (stC (pz z j).hs (pz z j).bl (pz z j).held (tj total j)) 147 (0,0)) (.cells (stC (feedB (pz z j) 0).hs (feedB (pz z j) 0).bl (feedB (pz z j) 0).held ((tj total j + 1) % 18446744073709551616)) 147 (0,0)) rfl Tryz.func73 rfl rfl kr kr (fun w1 h => shaWrite1 b (pz z j) (tj total j) 0 w1 (pz_ok hx j) (h.hasR (fun e he => he)) (h.own _ (mG 1 rfl)) hne)) ?_
   refine CfgL.done rfl ?_
   refine Cg (Γ' := [(3,[],.int .u64 (lb total : Int)),(2,[],pT r),(0,[],pT b)]) ?_
   have hjn : j ≠ padN z := fun h => c1 ((pad_end hx hj).2 h)
   refine oB 1 rfl (show _ = (stC (pz z (j + 1)).hs (pz z (j + 1)).bl (pz z (j + 1)).held (tj total (j + 1))) from by rw [pz_succ,tj_succ]) ?_
   refine Cfg.again rfl (j + 1) (by show j + 1 ≤ padN z; omega) (by show padN z - (j + 1) < padN z - j; omega) (Conv.mk kr) (.cons_cons _ (.cons_cons _ .slnil))
  ·have c1 := (bne_eq_false_iff_eq.1 c1r)
   obtain rfl : j = padN z := (pad_end hx hj).1 c1
   refine Cfg.begL rfl ?_
   refine Le (Eff.alloc (z := (.agg (bv (List.replicate 8 0)))) rfl kr) ?_
   rintro tl ⟨htl,ntl⟩
   refine CfgL.done rfl ?_
   refine Cg (Γ' := [(4,[],pT tl),(3,[],.int .u64 (lb total : Int)),(2,[],pT r),(0,[],pT b)]) ?_
   refine Rq [0,2,3,4,23] ?_
   refine Cfg.loop rfl (ι := Nat) (fun (k1 : Nat) => [(23,[],iN k1),(4,[],pT tl),(3,[],.int .u64 (lb total : Int)),(2,[],pT r),(0,[],pT b)]) (fun (k1 : Nat) => [(tl,.cells (bv (tlr (lb total) k1)) 118 (0,0)),(r,.cells (bv (List.replicate 32 0)) 30 (0,0)),(b,.cells (stC (pz z (padN z)).hs (pz z (padN z)).bl (pz z (padN z)).held (tj total (padN z))) 147 (0,0))]) (fun (k1 : Nat) => (k1 ≤ 8)) (fun (k1 : Nat) => 8 - k1) 0 ?_ (Conv.mk kr) (.cons_cons _ (.cons_cons _ (.cons_cons _ .slnil))) ?_
   ·exact Nat.zero_le _
   ·rintro k1 hk1
    refine Rq [0,2,3,4,23,24] ?_
    refine Cfg.cond rfl (b := (decide ((k1 : Int) < (8 : Int)))) kr (fun c2r => ?_) (fun c2r => ?_)
    ·have c2 := (dT c2r)
     refine Rq [0,2,3,4,5,23] ?_
     refine Cfg.begL rfl ?_
     refine Lp 8 [] (some [0,2,3,4,23,32,33]) (fun _ => [(i6 (8 * (k1 : Int))),(i6 (56 - (8 * (k1 : Int)))),(0 ≤ (56 - (8 * (k1 : Int))) ∧ ((56 - (8 * (k1 : Int)))).toNat ≤ 64),(iL (k1 : Int) 8)]) ⟨om,om,om,om,trivial⟩ ?_
     refine Lu (Eff.store1 (b := tl) (off := k1) (v := .int .u8 (((lb total : Int) / ((2 ^ ((56 - (8 * (k1 : Int)))).toNat : Nat) : Int)) % 256)) rfl kr kr rfl kr 0 (cs := (bv (tlr (lb total) k1))) (e := 118) kr (by rw [bv_size,tlr_len hk1]; omega)) ?_
     refine CfgL.done rfl ?_
     refine Cg (Γ' := [(23,[],iN k1),(4,[],pT tl),(3,[],.int .u64 (lb total : Int)),(2,[],pT r),(0,[],pT b)]) ?_
     refine Rg [0,2,3,4,23] [] (fun _ => [(i6 ((k1 : Int) + 1))]) ⟨om,trivial⟩ ?_
     refine oB 0 rfl (show _ = (bv (tlr (lb total) (k1 + 1))) from tlr_step om rfl) ?_
     refine Cfg.again rfl (k1 + 1) (by show k1 + 1 ≤ 8; omega) (by show 8 - (k1 + 1) < 8 - k1; omega) (Conv.mk kr) (.cons_cons _ (.cons_cons _ (.cons_cons _ .slnil)))
    ·have c2 := (dF c2r)
     obtain rfl : k1 = 8 := by omega
     refine Conv.cfg (Γ' := [(4,[],pT tl),(3,[],.int .u64 (lb total : Int)),(2,[],pT r),(0,[],pT b)]) (Conv.mk kr) ?_
     refine Cfg.begL rfl ?_
     refine Lp 3 [dZ,dZ,(dS (.string (tls (lb total))))] (some [0,2,35,37]) (fun S => [(8 ≤ 8),(∀ w1,S w1 → (Conv.bytesToString (.slice (some ⟨tl,0,none⟩) 8 8)).run Tryz.prog w1 = .ok (.string (tls (lb total))) w1)]) ⟨om,(fun w1 h => h.ostr 0 rfl (tlr_len (Nat.le_refl 8))),trivial⟩ ?_
     refine Lu (Eff.callM (.tuple #[]) 2 (b := b) (ob := .cells (stC (pz z (padN z)).hs (pz z (padN z)).bl (pz z (padN z)).held (tj total (padN z))) 147 (0,0)) (.cells (stC (z3 z total).hs (z3 z total).bl (z3 z total).held ((tj total (padN z) + (tls (lb total)).size) % 18446744073709551616)) 147 (0,0)) rfl Tryz.func73 rfl rfl kr kr (fun w1 h => shaWrite b (pz z (padN z)) (tj total (padN z)) (tls (lb total)) w1 (pz_ok hx _) (h.hasR (fun e he => he)) (h.own _ (mG 2 rfl)) hne)) ?_
     refine CfgL.done rfl ?_
     refine Cg (Γ' := [(2,[],pT r),(0,[],pT b)]) ?_
     refine Cfg.begL rfl ?_
     refine Le (Eff.alloc (z := (.agg (bv (List.replicate 32 0)))) rfl kr) ?_
     rintro d ⟨hd,nd⟩
     refine CfgL.done rfl ?_
     refine Rg [2,6,42,43] [dZ,dZ,dZ,(dS (.agg (wv (z3 z total).hs)))] (fun S => [(∀ w1,S w1 → (loadVar 145 ⟨b,0,none⟩).run Tryz.prog w1 = .ok (.agg (wv (z3 z total).hs)) w1)]) ⟨(fun w1 h => load_words Tryz.underlying145 rfl kr (z3_ok hx total).hh (fun j hj => h.ocell 3 rfl (by rw [Nat.zero_add]; exact st_sum (z3_ok hx total).hh hj))),trivial⟩ ?_
     refine Cfg.loop rfl (ι := Nat) (fun (k2 : Nat) => [(43,[],iN k2),(42,[],.agg (wv (z3 z total).hs)),(6,[],pT d),(2,[],pT r)]) (fun (k2 : Nat) => [(d,.cells (bv (dgr (z3 z total).hs k2)) 30 (0,0)),(tl,.cells (bv (tlr (lb total) 8)) 118 (0,0)),(r,.cells (bv (List.replicate 32 0)) 30 (0,0)),(b,.cells (stC (z3 z total).hs (z3 z total).bl (z3 z total).held ((tj total (padN z) + (tls (lb total)).size) % 18446744073709551616)) 147 (0,0))]) (fun (k2 : Nat) => (k2 ≤ 8)) (fun (k2 : Nat) => 8 - k2) 0 ?_ (Conv.mk kr) (.cons_cons _ (.cons_cons _ (.cons_cons _ (.cons_cons _ .slnil)))) ?_
     ·exact Nat.zero_le _
     ·rintro k2 hk2
      refine Rq [2,6,42,43,44] ?_
      refine Cfg.cond rfl (b := (decide ((k2 : Int) < (8 : Int)))) kr (fun c3r => ?_) (fun c3r => ?_)
      ·have c3 := (dT c3r)
       refine Rg [2,6,7,8,42,43] [dZ,(dS (.int .u32 (rg (z3 z total).hs k2 : Int)))] (fun _ => [(iL (k2 : Int) 8),(((wv (z3 z total).hs))[k2]? = some (.int .u32 (rg (z3 z total).hs k2 : Int)))]) ⟨om,(wv_get (z3_ok hx total).hh om),trivial⟩ ?_
       refine Cfg.begL rfl ?_
       refine Lp 6 [] (some [2,6,7,8,42,43,51,52]) (fun _ => [(i6 (4 * (k2 : Int))),(0 ≤ (24 : Int) ∧ 24 ≤ 32),(iL (4 * (k2 : Int)) 32)]) ⟨om,om,om,trivial⟩ ?_
       refine Lu (Eff.store1 (b := d) (off := (4 * k2)) (v := .int .u8 (((rg (z3 z total).hs k2 : Int) / 16777216) % 256)) rfl kr kr rfl kr 0 (cs := (bv (dgr (z3 z total).hs k2))) (e := 30) kr (by first | (rw [dsz _ hk2]; omega) | (simp only [Array.size_setIfInBounds,dsz _ hk2]; omega))) ?_
       refine CfgL.done rfl ?_
       refine Cg (Γ' := [(8,[],.int .u32 (rg (z3 z total).hs k2 : Int)),(7,[],iN k2),(43,[],iN k2),(42,[],.agg (wv (z3 z total).hs)),(6,[],pT d),(2,[],pT r)]) ?_
       refine Cfg.begL rfl ?_
       refine Lp 7 [] (some [2,6,7,8,42,43,58,59]) (fun _ => [(i6 (4 * (k2 : Int))),(i6 ((4 * (k2 : Int)) + 1)),(0 ≤ (16 : Int) ∧ 16 ≤ 32),(iL ((4 * (k2 : Int)) + 1) 32)]) ⟨om,om,om,om,trivial⟩ ?_
       refine Lu (Eff.store1 (b := d) (off := ((4 * k2) + 1)) (v := .int .u8 (((rg (z3 z total).hs k2 : Int) / 65536) % 256)) rfl kr kr rfl kr 0 (cs := ((bv (dgr (z3 z total).hs k2)).setIfInBounds (4 * k2) (.int .u8 (((rg (z3 z total).hs k2 : Int) / 16777216) % 256)))) (e := 30) kr (by first | (rw [dsz _ hk2]; omega) | (simp only [Array.size_setIfInBounds,dsz _ hk2]; omega))) ?_
       refine CfgL.done rfl ?_
       refine Cg (Γ' := [(8,[],.int .u32 (rg (z3 z total).hs k2 : Int)),(7,[],iN k2),(43,[],iN k2),(42,[],.agg (wv (z3 z total).hs)),(6,[],pT d),(2,[],pT r)]) ?_
       refine Cfg.begL rfl ?_
       refine Lp 7 [] (some [2,6,7,8,42,43,65,66]) (fun _ => [(i6 (4 * (k2 : Int))),(i6 ((4 * (k2 : Int)) + 2)),(0 ≤ (8 : Int) ∧ 8 ≤ 32),(iL ((4 * (k2 : Int)) + 2) 32)]) ⟨om,om,om,om,trivial⟩ ?_
       refine Lu (Eff.store1 (b := d) (off := ((4 * k2) + 2)) (v := .int .u8 (((rg (z3 z total).hs k2 : Int) / 256) % 256)) rfl kr kr rfl kr 0 (cs := (((bv (dgr (z3 z total).hs k2)).setIfInBounds (4 * k2) (.int .u8 (((rg (z3 z total).hs k2 : Int) / 16777216) % 256))).setIfInBounds ((4 * k2) + 1) (.int .u8 (((rg (z3 z total).hs k2 : Int) / 65536) % 256)))) (e := 30) kr (by first | (rw [dsz _ hk2]; omega) | (simp only [Array.size_setIfInBounds,dsz _ hk2]; omega))) ?_
       refine CfgL.done rfl ?_
       refine Cg (Γ' := [(8,[],.int .u32 (rg (z3 z total).hs k2 : Int)),(7,[],iN k2),(43,[],iN k2),(42,[],.agg (wv (z3 z total).hs)),(6,[],pT d),(2,[],pT r)]) ?_
       refine Cfg.begL rfl ?_
       refine Lp 6 [] (some [2,6,42,43,71,72]) (fun _ => [(i6 (4 * (k2 : Int))),(i6 ((4 * (k2 : Int)) + 3)),(iL ((4 * (k2 : Int)) + 3) 32)]) ⟨om,om,om,trivial⟩ ?_
       refine Lu (Eff.store1 (b := d) (off := ((4 * k2) + 3)) (v := .int .u8 ((rg (z3 z total).hs k2 : Int) % 256)) rfl kr kr rfl kr 0 (cs := ((((bv (dgr (z3 z total).hs k2)).setIfInBounds (4 * k2) (.int .u8 (((rg (z3 z total).hs k2 : Int) / 16777216) % 256))).setIfInBounds ((4 * k2) + 1) (.int .u8 (((rg (z3 z total).hs k2 : Int) / 65536) % 256))).setIfInBounds ((4 * k2) + 2) (.int .u8 (((rg (z3 z total).hs k2 : Int) / 256) % 256)))) (e := 30) kr (by first | (rw [dsz _ hk2]; omega) | (simp only [Array.size_setIfInBounds,dsz _ hk2]; omega))) ?_
       refine CfgL.done rfl ?_
       refine Cg (Γ' := [(43,[],iN k2),(42,[],.agg (wv (z3 z total).hs)),(6,[],pT d),(2,[],pT r)]) ?_
       refine Rg [2,6,42,43] [] (fun _ => [(i6 ((k2 : Int) + 1))]) ⟨om,trivial⟩ ?_
       refine oB 0 rfl (show _ = (bv (dgr (z3 z total).hs (k2 + 1))) from dgr_step _ om rfl rfl rfl rfl) ?_
       refine Cfg.again rfl (k2 + 1) (by show k2 + 1 ≤ 8; omega) (by show 8 - (k2 + 1) < 8 - k2; omega) (Conv.mk kr) (.cons_cons _ (.cons_cons _ (.cons_cons _ (.cons_cons _ .slnil))))
      ·have c3 := (dF c3r)
       refine Cfg.begL rfl ?_
       refine Lp 1 [(dS (.agg (bv (dgr (z3 z total).hs k2))))] (some [2,74]) (fun S => [(∀ w1,S w1 → (loadVar 30 ⟨d,0,none⟩).run Tryz.prog w1 = .ok (.agg (bv (dgr (z3 z total).hs k2))) w1)]) ⟨(fun w1 h => h.oload 0 rfl Tryz.underlying30 rfl (n := 32) kr (dsz _ hk2)),trivial⟩ ?_
       refine Lu (Eff.storeN (b := r) (off := 0) (vs := (bv (dgr (z3 z total).hs k2))) (n := 32) rfl kr kr kr (dsz _ hk2) (all_bv _) 2 (cs := (bv (List.replicate 32 0))) (e := 30) kr (by rw [zsz]; omega)) ?_
       refine oL 2 rfl (show _ = (bv (dgr (z3 z total).hs k2)) from spl_all ((dsz _ hk2).trans zsz.symm)) ?_
       refine CfgL.done rfl ?_
       refine Cg (Γ' := [(2,[],pT r)]) ?_
       refine Cfg.ret rfl (rs := [.cell 2 30]) rfl [.agg (bv (dgr (z3 z total).hs k2))] ⟨⟨_,by kernel_rfl,(fun w1 h => h.oload 2 rfl Tryz.underlying30 rfl (n := 32) kr (dsz _ hk2))⟩,trivial⟩ (fun w1 hp => ?_)
       obtain rfl : k2 = 8 := by omega
       exact ⟨rfl,hp.ext⟩
theorem shaBegin (w : World) :
  Calls Tryz.prog 72 #[] w fun e w' => ∃ b : Nat,True ∧ e = .returned (.pointer (some ⟨b,0,none⟩)) ∧ w.heap.size ≤ b ∧ w'.heap[b]? = some (.cells (stC H8 (List.replicate 64 0) 0 0) 147 (0,0)) ∧ Ext [] w w' := by
 refine enter [] [] [] Tryz.func72 rfl kr (HP.start w) ?_
 refine Rq [] ?_
 refine Cfg.begL rfl ?_
 refine Lp 2 [(dS (.agg (wv H8))),(dS (.agg (stC H8 (List.replicate 64 0) 0 0)))] (some [2]) (fun S => [(∀ w1,S w1 → (Instr.build 145 #[(0,.int .u32 1779033703),(1,.int .u32 3144134277),(2,.int .u32 1013904242),(3,.int .u32 2773480762),(4,.int .u32 1359893119),(5,.int .u32 2600822924),(6,.int .u32 528734635),(7,.int .u32 1541459225)]).run Tryz.prog w1 = .ok (.agg (wv H8)) w1),(∀ w1,S w1 → (Instr.build 147 #[(0,.agg (wv H8))]).run Tryz.prog w1 = .ok (.agg (stC H8 (List.replicate 64 0) 0 0)) w1)]) ⟨(fun _ _ => kr),(fun _ _ => kr),trivial⟩ ?_
 refine Le (Eff.box (v := .agg (stC H8 (List.replicate 64 0) 0 0)) rfl kr) ?_
 rintro b1 ⟨hb1,nb1⟩
 refine Ld 1 [0] ?_
 refine Cfg.ret rfl (rs := [.tmp 0]) rfl [pT b1] ⟨kr,trivial⟩ (fun w1 hp => ?_)
 exact ⟨b1,trivial,rfl,hb1,hp.own (b1,_) mH,hp.ext⟩
theorem shaSum (la : Option Addr) (cap : Nat) (ss : List ByteArray) (Rl : List (Nat × Obj)) {kt : Array Value} {t0 : TypeId} {fr0 : Nat × Nat} (w : World) (hI : InS Rl la ss.length (fun j => .string (ssat ss j))) (hn : ss.length ≤ maxLen) (hR : Has w ((0,.cells kt t0 fr0) :: Rl)) (hK : KT kt := by assumption) :
  Calls Tryz.prog 61 #[.slice la ss.length cap] w fun e w' => e = .returned (.agg (bv (shaD (scat ss)))) ∧ Ext [] w w' := by
 unfold maxLen at hn
 have h0 : 0 < w.heap.size := lt_of_get (hR _ mH)
 refine enter [] ((0,.cells kt t0 fr0) :: Rl) [] Tryz.func61 rfl kr (HP.ofHas hR) ?_
 refine Cfg.begL rfl ?_
 refine Le (Eff.alloc (z := (.agg (bv (List.replicate 32 0)))) rfl kr) ?_
 rintro r ⟨hr,nr⟩
 refine CfgL.done rfl ?_
 refine Cfg.begL rfl ?_
 refine Le (Eff.callN (fun b : Nat => pT b) (fun b => b) (fun _ => .cells (stC H8 (List.replicate 64 0) 0 0) 147 (0,0)) (fun _ => True) rfl Tryz.func72 rfl rfl kr (fun w1 _ => shaBegin w1)) ?_
 rintro b ⟨-,hb,nb⟩
 have hne : b ≠ 0 := by have : w.heap.size ≤ b := hb; omega
 refine Ld 1 [0,2,3] ?_
 refine Rq [2,3,7,8,9] ?_
 refine Cfg.loop rfl (ι := Nat) (fun (i : Nat) => [(9,[],iN i),(8,[],iN ss.length),(7,[],.slice la ss.length cap),(3,[],pT b),(2,[],pT r)]) (fun (i : Nat) => [(b,.cells (stC (sz ss i).hs (sz ss i).bl (sz ss i).held (tt ss i)) 147 (0,0)),(r,.cells (bv (List.replicate 32 0)) 30 (0,0))]) (fun (i : Nat) => (i ≤ ss.length)) (fun (i : Nat) => ss.length - i) 0 ?_ (Conv.mk kr) (.cons_cons _ (.cons_cons _ .slnil)) ?_
 ·exact Nat.zero_le _
 ·rintro i hi
  refine Rq [2,3,7,8,9,10] ?_
  refine Cfg.cond rfl (b := (decide ((i : Int) < (ss.length : Int)))) kr (fun c1r => ?_) (fun c1r => ?_)
  ·have c1 := (dT c1r)
   obtain ⟨sb,off,cs,te,fre,rfl,hmem,hcs⟩ := hI om
   refine Conv.cfg (Γ' := [(10,[],.bool (decide ((i : Int) < (ss.length : Int)))),(9,[],iN i),(8,[],iN ss.length),(7,[],.slice (some ⟨sb,off,none⟩) ss.length cap),(3,[],pT b),(2,[],pT r)]) (Conv.mk kr) ?_
   refine Rg [2,3,5,7,8,9] [dZ,(dS (.string (ssat ss i)))] (fun S => [(0 ≤ (i : Int) ∧ (i : Int) < (ss.length : Int)),(cE S sb (addO off i) (.string (ssat ss i)))]) ⟨om,(fun w1 h => by rw [addO_eq]; exact (cell_cells (h.ro _ (List.mem_cons_of_mem _ hmem))).trans (hcs i om)),trivial⟩ ?_
   refine Cfg.begL rfl ?_
   refine Lq 2 [2,3,7,8,9,13,14] ?_
   refine Lu (Eff.callM (.tuple #[]) 0 (b := b) (ob := .cells (stC (sz ss i).hs (sz ss i).bl (sz ss i).held (tt ss i)) 147 (0,0)) (.cells (stC (feed (sz ss i) (ssat ss i).data.toList).hs (feed (sz ss i) (ssat ss i).data.toList).bl (feed (sz ss i) (ssat ss i).data.toList).held ((tt ss i + (ssat ss i).size) % 18446744073709551616)) 147 (0,0)) rfl Tryz.func73 rfl rfl kr kr (fun w1 h => shaWrite b (sz ss i) (tt ss i) (ssat ss i) w1 (sz_ok ss i) (h.hasR (fun e he => by rw [List.mem_singleton.1 he]; exact mH)) (h.own _ (mG 0 rfl)) hne)) ?_
   refine CfgL.done rfl ?_
   refine Cg (Γ' := [(9,[],iN i),(8,[],iN ss.length),(7,[],.slice (some ⟨sb,off,none⟩) ss.length cap),(3,[],pT b),(2,[],pT r)]) ?_
   refine Rg [2,3,7,8,9] [] (fun _ => [(i6 ((i : Int) + 1))]) ⟨om,trivial⟩ ?_
   refine oB 0 rfl (show _ = (stC (sz ss (i + 1)).hs (sz ss (i + 1)).bl (sz ss (i + 1)).held (tt ss (i + 1))) from by rw [sz_succ om,tt_succ om]) ?_
   refine Cfg.again rfl (i + 1) (by show i + 1 ≤ ss.length; omega) (by show ss.length - (i + 1) < ss.length - i; omega) (Conv.mk kr) (.cons_cons _ (.cons_cons _ .slnil))
  ·have c1 := (dF c1r)
   obtain rfl : i = ss.length := by omega
   refine Conv.cfg (Γ' := [(8,[],iN ss.length),(7,[],.slice la ss.length cap),(3,[],pT b),(2,[],pT r)]) (Conv.mk kr) ?_
   refine Cfg.begL rfl ?_
   refine Lq 1 [2,17] ?_
   refine Lu (Eff.callD (vs := [pT b]) (.agg (bv (shaD (scat ss)))) 0 (b := b) (ob := .cells (stC (sz ss ss.length).hs (sz ss ss.length).bl (sz ss ss.length).held (tt ss ss.length)) 147 (0,0)) rfl Tryz.func74 rfl rfl kr kr (fun w1 h => by have := shaEndC b (sz ss ss.length) (tt ss ss.length) w1 (sz_ok ss _) (h.hasR (fun e he => by rw [List.mem_singleton.1 he]; exact mH)) (h.own _ (mG 0 rfl)) hne; rw [sz_all] at this; exact this)) ?_
   refine Lu (Eff.storeN (b := r) (off := 0) (vs := (bv (shaD (scat ss)))) (n := 32) rfl kr kr kr (dz _) (all_bv _) 0 (cs := (bv (List.replicate 32 0))) (e := 30) kr (by rw [zsz]; omega)) ?_
   refine oL 0 rfl (show _ = (bv (shaD (scat ss))) from spl_all ((dz _).trans zsz.symm)) ?_
   refine CfgL.done rfl ?_
   refine Cg (Γ' := [(2,[],pT r)]) ?_
   refine Cfg.ret rfl (rs := [.cell 2 30]) rfl [.agg (bv (shaD (scat ss)))] ⟨⟨_,by kernel_rfl,(fun w1 h => h.oload 0 rfl Tryz.underlying30 rfl (n := 32) kr (dz _))⟩,trivial⟩ (fun w1 hp => ?_)
   exact ⟨rfl,hp.ext⟩
def digT : ByteArray := ⟨#[48,49,50,51,52,53,54,55,56,57,97,98,99,100,101,102]⟩
def hexD (n : Nat) : UInt8 := digT.data.toList.getD n 0
def hexL (l : List UInt8) : List UInt8 := l.flatMap fun b => [hexD (b.toNat / 16),hexD (b.toNat % 16)]
def hexS (l : List UInt8) : ByteArray := ⟨(hexL l).toArray⟩
def hexRow (l : List UInt8) (k : Nat) : List UInt8 := hexL (l.take k) ++ List.replicate (64 - 2 * k) 0
theorem hexL_len (l : List UInt8) : (hexL l).length = 2 * l.length := by
 induction l with
 | nil => rfl
 | cons x l ih => simp only [hexL,List.flatMap_cons,List.length_append,List.length_cons,List.length_nil] at *; omega
theorem hexRow_len {l : List UInt8} (hl : l.length = 32) {k : Nat} (hk : k ≤ 32) : (hexRow l k).length = 64 := by
 simp [hexRow,hexL_len]; omega
theorem hexRow_end {l : List UInt8} (hl : l.length = 32) : hexRow l 32 = hexL l := by
 simp [hexRow,List.take_of_length_le (show l.length ≤ 32 by omega)]
theorem byte_lt (b : UInt8) : b.toNat < 256 := UInt8.toNat_lt b
theorem set_two (A : List UInt8) (n : Nat) (x y : UInt8) (hn : 2 ≤ n) : ((A ++ List.replicate n 0).set A.length x).set (A.length + 1) y = A ++ [x,y] ++ List.replicate (n - 2) 0 := by
 obtain ⟨m,rfl⟩ : ∃ m,n = m + 2 := ⟨n - 2,by omega⟩
 simp [List.replicate_succ]
theorem u8_back (b : UInt8) : UInt8.ofNat ((b.toNat : Int)).toNat = b := by simp
theorem hexRow_step {l : List UInt8} (hl : l.length = 32) {k : Nat} (hk : k < 32) {x y : Int} (hx : x = ((hexD ((l.getD k 0).toNat / 16)).toNat : Int)) (hy : y = ((hexD ((l.getD k 0).toNat % 16)).toNat : Int)) :
  ((bv (hexRow l k)).setIfInBounds (2 * k) (.int .u8 x)).setIfInBounds (2 * k + 1) (.int .u8 y) = bv (hexRow l (k + 1)) := by
 subst hx hy
 have b1 := byte_lt (hexD ((l.getD k 0).toNat / 16))
 have b2 := byte_lt (hexD ((l.getD k 0).toNat % 16))
 rw [bv_set om om,bv_set om om,u8_back,u8_back]
 congr 1
 have hlen : (hexL (l.take k)).length = 2 * k := by rw [hexL_len]; simp; omega
 have ht : l.take (k + 1) = l.take k ++ [l.getD k 0] := by
  rw [List.take_succ_eq_append_getElem om]; simp [List.getElem?_eq_getElem (show k < l.length by omega)]
 have := set_two (hexL (l.take k)) (64 - 2 * k) (hexD ((l.getD k 0).toNat / 16)) (hexD ((l.getD k 0).toNat % 16)) om
 rw [hlen] at this
 unfold hexRow
 rw [this,ht]
 simp only [hexL,List.flatMap_append,List.flatMap_cons,List.flatMap_nil,List.append_nil]
 rw [show 64 - 2 * k - 2 = 64 - 2 * (k + 1) by omega]
theorem and15 (x : Nat) : x &&& 15 = x % 16 := Nat.and_two_pow_sub_one_eq_mod x 4
theorem hex_str {P : Program} {l : List UInt8} {w0 w : World} {M : List Nat} {R O : List (Nat × Obj)} {b k : Nat} {t : TypeId} (hl : l.length = 32) (hk : k = 32) (h : HP w0 M R O w) (ho : O[0]? = some (b,.cells (bv (hexRow l k)) t (0,0))) :
  (Conv.bytesToString (.slice (some ⟨b,0,none⟩) 64 64)).run P w = .ok (.string (hexS l)) w := by
 subst hk
 have hr := h.ostr (P := P) (c := 64) 0 ho (hexRow_len hl om)
 rw [hexRow_end hl] at hr; exact hr
theorem shaHex (l : List UInt8) (w : World) (hl : l.length = 32) :
  Calls Tryz.prog 62 #[.agg (bv l)] w fun e w' => e = .returned (.string (hexS l)) ∧ Ext [] w w' := by
 refine enter [] [] [] Tryz.func62 rfl kr (HP.start w) ?_
 refine Cfg.begL rfl ?_
 refine Le (Eff.box (v := .agg (bv l)) rfl kr) ?_
 rintro d ⟨hd,nd⟩
 refine Ld 1 [1] ?_
 refine Cfg.begL rfl ?_
 refine Le (Eff.alloc (z := (.agg (bv (List.replicate 64 0)))) rfl kr) ?_
 rintro t ⟨ht,nt⟩
 refine CfgL.done rfl ?_
 refine Rg [3,6,7] [(dS (.agg (bv l)))] (fun S => [(∀ w1,S w1 → (loadVar 30 ⟨d,0,none⟩).run Tryz.prog w1 = .ok (.agg (bv l)) w1)]) ⟨(fun w1 h => h.oload 1 rfl Tryz.underlying30 rfl (n := 32) kr ((bv_size l).trans hl)),trivial⟩ ?_
 refine Cfg.loop rfl (ι := Nat) (fun (k : Nat) => [(7,[],iN k),(6,[],.agg (bv l)),(3,[],pT t)]) (fun (k : Nat) => [(t,.cells (bv (hexRow l k)) 125 (0,0)),(d,.cells (bv l) 30 (0,0))]) (fun (k : Nat) => (k ≤ 32)) (fun (k : Nat) => 32 - k) 0 ?_ (Conv.mk kr) slr ?_
 ·exact Nat.zero_le _
 ·rintro k hk
  refine Rq [3,6,7,8] ?_
  refine Cfg.cond rfl (b := (decide ((k : Int) < (32 : Int)))) kr (fun c1r => ?_) (fun c1r => ?_)
  ·have c1 := (dT c1r)
   refine Rg [3,4,5,6,7] [dZ,(dS (.int .u8 ((l.getD k 0).toNat : Int)))] (fun _ => [(iL (k : Int) 32),(((bv l))[k]? = some (.int .u8 ((l.getD k 0).toNat : Int)))]) ⟨(by have hb := byte_lt (l.getD k 0); have h15 := and15 (l.getD k 0).toNat; omega),(bv_get hl om),trivial⟩ ?_
   refine Cfg.begL rfl ?_
   refine Lp 6 [] (some [3,4,5,6,7,15,16]) (fun _ => [(i6 (2 * (k : Int))),(0 ≤ (4 : Int) ∧ 4 ≤ 8),(iL (((l.getD k 0).toNat : Int) / 16) 16),(iL (2 * (k : Int)) 64)]) ⟨(by have hb := byte_lt (l.getD k 0); have h15 := and15 (l.getD k 0).toNat; omega),(by have hb := byte_lt (l.getD k 0); have h15 := and15 (l.getD k 0).toNat; omega),(by have hb := byte_lt (l.getD k 0); have h15 := and15 (l.getD k 0).toNat; omega),(by have hb := byte_lt (l.getD k 0); have h15 := and15 (l.getD k 0).toNat; omega),trivial⟩ ?_
   refine Lu (Eff.store1 (b := t) (off := (2 * k)) (v := .int .u8 (sbyte ⟨#[48,49,50,51,52,53,54,55,56,57,97,98,99,100,101,102]⟩ (((l.getD k 0).toNat : Int) / 16))) rfl kr kr rfl kr 0 (cs := (bv (hexRow l k))) (e := 125) kr (by simp [bv_size,hexRow_len hl (show k ≤ 32 by omega)]; omega)) ?_
   refine CfgL.done rfl ?_
   refine Cg (Γ' := [(5,[],.int .u8 ((l.getD k 0).toNat : Int)),(4,[],iN k),(7,[],iN k),(6,[],.agg (bv l)),(3,[],pT t)]) ?_
   refine Cfg.begL rfl ?_
   refine Lp 7 [] (some [3,6,7,22,23]) (fun _ => [(i6 (2 * (k : Int))),(i6 ((2 * (k : Int)) + 1)),((0 ≤ ((l.getD k 0).toNat : Int) ∧ ((l.getD k 0).toNat : Int) ≤ 255) ∧ 0 ≤ (15 : Int) ∧ (15 : Int) ≤ 255),(iL ((((l.getD k 0).toNat) &&& 15 : Nat) : Int) 16),(iL ((2 * (k : Int)) + 1) 64)]) ⟨(by have hb := byte_lt (l.getD k 0); have h15 := and15 (l.getD k 0).toNat; omega),(by have hb := byte_lt (l.getD k 0); have h15 := and15 (l.getD k 0).toNat; omega),(by have hb := byte_lt (l.getD k 0); have h15 := and15 (l.getD k 0).toNat; omega),(by have hb := byte_lt (l.getD k 0); have h15 := and15 (l.getD k 0).toNat; omega),(by have hb := byte_lt (l.getD k 0); have h15 := and15 (l.getD k 0).toNat; omega),trivial⟩ ?_
   refine Lu (Eff.store1 (b := t) (off := ((2 * k) + 1)) (v := .int .u8 (sbyte ⟨#[48,49,50,51,52,53,54,55,56,57,97,98,99,100,101,102]⟩ ((((l.getD k 0).toNat) &&& 15 : Nat) : Int))) rfl kr kr rfl kr 0 (cs := ((bv (hexRow l k)).setIfInBounds (2 * k) (.int .u8 (sbyte ⟨#[48,49,50,51,52,53,54,55,56,57,97,98,99,100,101,102]⟩ (((l.getD k 0).toNat : Int) / 16))))) (e := 125) kr (by simp [bv_size,hexRow_len hl (show k ≤ 32 by omega)]; omega)) ?_
   refine CfgL.done rfl ?_
   refine Cg (Γ' := [(7,[],iN k),(6,[],.agg (bv l)),(3,[],pT t)]) ?_
   refine Rg [3,6,7] [] (fun _ => [(i6 ((k : Int) + 1))]) ⟨(by have hb := byte_lt (l.getD k 0); have h15 := and15 (l.getD k 0).toNat; omega),trivial⟩ ?_
   refine oB 0 rfl (show _ = (bv (hexRow l (k + 1))) from hexRow_step hl om rfl (by rw [and15]; rfl)) ?_
   refine Cfg.again rfl (k + 1) (show k + 1 ≤ 32 by omega) om (Conv.mk kr) (.cons_cons _ (.cons_cons _ .slnil))
  ·have c1 := (dF c1r)
   refine Rg [2] [dZ,(dS (.string (hexS l)))] (fun S => [(64 ≤ 64),(∀ w1,S w1 → (Conv.bytesToString (.slice (some ⟨t,0,none⟩) 64 64)).run Tryz.prog w1 = .ok (.string (hexS l)) w1)]) ⟨(by have hb := byte_lt (l.getD k 0); have h15 := and15 (l.getD k 0).toNat; omega),(fun w1 h => hex_str hl om h rfl),trivial⟩ ?_
   refine Cfg.ret rfl (rs := [.tmp 2]) rfl [.string (hexS l)] ⟨kr,trivial⟩ (fun w1 hp => ?_)
   exact ⟨rfl,hp.ext⟩
def abcD : List UInt8 := [186,120,22,191,143,1,207,234,65,65,64,222,93,174,34,35,176,3,97,163,150,23,122,156,180,16,255,97,242,0,21,173]
theorem shaD_abc : shaD (scat [⟨#[97,98,99]⟩]) = abcD := by kernel_rfl
theorem sinS_lit (bk : Nat) (t : TypeId) (fr : Nat × Nat) (ss : List ByteArray) : InS [(bk,.cells (ss.map Value.string).toArray t fr)] (some ⟨bk,0,none⟩) ss.length (fun j => .string (ssat ss j)) := by
 intro _
 refine ⟨bk,0,_,t,fr,rfl,List.mem_singleton.2 rfl,fun j hj => ?_⟩
 rw [Nat.zero_add]
 simp [ssat,List.getElem?_eq_getElem hj]
theorem has_two {w w0 : World} {M : List Nat} {R O : List (Nat × Obj)} (h : HP w0 M R O w) {x y : Nat × Obj} (hx : x ∈ R) (hy : y ∈ O) : Has w (x :: [y]) := by
 intro e he
 rcases List.mem_cons.1 he with rfl | he
 ·exact h.ro _ hx
 ·rw [List.mem_singleton.1 he]; exact h.own _ hy
theorem shaAwake {t0 : TypeId} {fr0 : Nat × Nat} (w : World) (hR : Has w [(0,.cells (wv Kc) t0 fr0)]) :
  Calls Tryz.prog 37 #[] w fun e w' => e = .returned (.bool true) ∧ Ext [] w w' := by
 have hK : KT (wv Kc) := fun t h => kget h
 refine enter [] [(0,.cells (wv Kc) t0 fr0)] [] Tryz.func37 rfl kr (HP.ofHas hR) ?_
 refine Rq [] ?_
 refine Cfg.begL rfl ?_
 refine Le (Eff.buildSlice (e := 9) (cells := #[.string ⟨#[97,98,99]⟩]) (parts := #[(0,.string ⟨#[97,98,99]⟩)]) rfl kr (fun _ => kr)) ?_
 rintro bs ⟨hbs,nbs⟩
 refine Lu (Eff.callA (.agg (bv abcD)) rfl Tryz.func61 rfl rfl kr (fun w1 h => shaD_abc ▸ shaSum (some ⟨bs,0,none⟩) 1 [⟨#[97,98,99]⟩] [(bs,.cells (List.map Value.string [⟨#[97,98,99]⟩]).toArray 9 (0,0))] w1 (sinS_lit bs 9 (0,0) [⟨#[97,98,99]⟩]) (Nat.le_of_ble_eq_true rfl) (has_two h mH (mG 0 rfl)))) ?_
 refine Le (Eff.alloc (z := (.agg (bv (List.replicate 32 0)))) rfl kr) ?_
 rintro d ⟨hd,nd⟩
 refine Lu (Eff.storeN (b := d) (off := 0) (vs := (bv abcD)) (n := 32) rfl kr kr kr rfl (all_bv _) 0 (cs := (bv (List.replicate 32 0))) (e := 30) kr (Nat.le_refl 32)) ?_
 refine oL 0 rfl (show _ = (bv abcD) from spl_all rfl) ?_
 refine CfgL.done rfl ?_
 refine Cg (Γ' := [(1,[],pT d)]) ?_
 refine Cfg.begL rfl ?_
 refine Lp 20 [dZ,(dS (.int .u8 186)),dZ,dZ,(1,false,none),(1,false,some (.int .u8 120)),(1,false,none),dZ,dZ,(1,false,none),(1,false,some (.int .u8 22)),(1,false,none),dZ,dZ,(1,false,none),(1,false,some (.int .u8 191)),(1,false,none),dZ,dZ,(1,false,some (.agg (bv abcD)))] (some [22,23]) (fun S => [(iL (0 : Int) 32),(cE S d 0 (.int .u8 186)),((.bool true : Value) = .bool true),(iL (1 : Int) 32),((.bool true : Value) = .bool true),(cE S d 1 (.int .u8 120)),((.bool true : Value) = .bool true),((.bool true : Value) = .bool true),(iL (2 : Int) 32),((.bool true : Value) = .bool true),(cE S d 2 (.int .u8 22)),((.bool true : Value) = .bool true),((.bool true : Value) = .bool true),(iL (3 : Int) 32),((.bool true : Value) = .bool true),(cE S d 3 (.int .u8 191)),((.bool true : Value) = .bool true),((.bool true : Value) = .bool true),(∀ w1,S w1 → (loadVar 30 ⟨d,0,none⟩).run Tryz.prog w1 = .ok (.agg (bv abcD)) w1)]) ⟨om,(oC 0 rfl rfl),rfl,om,rfl,(oC 0 rfl rfl),rfl,rfl,om,rfl,(oC 0 rfl rfl),rfl,rfl,om,rfl,(oC 0 rfl rfl),rfl,rfl,(fun w1 h => h.oload 0 rfl Tryz.underlying30 rfl (n := 32) kr ((bv_size _).trans rfl)),trivial⟩ ?_
 refine Lu (Eff.callA (.string (hexS abcD)) rfl Tryz.func62 rfl rfl kr (fun w1 h => shaHex abcD w1 rfl)) ?_
 refine Lp 4 [(1,false,none),(1,false,none)] (some [0]) (fun _ => [((.bool true : Value) = .bool true),((.bool true : Value) = .bool true)]) ⟨rfl,rfl,trivial⟩ ?_
 refine CfgL.done rfl ?_
 refine Cfg.ret rfl (rs := [.tmp 0]) rfl [.bool (((hexS abcD).size : Int) == (64 : Int))] ⟨kr,trivial⟩ (fun w1 hp => ?_)
 exact ⟨congrArg (fun b => Ending.returned (.bool b)) kr,hp.ext⟩
def om0 : OM := ⟨109,m0,c0,t0⟩
theorem om0_right : rightF [] [] [] = 0 := by
 unfold rightF
 rw [if_neg (by decide)]
 have h : genusF [] [] [] = 0 := by
  unfold genusF partsF aloneF facesF
  rw [partsL]; rfl
 rw [if_neg (by rw [h]; decide)]
theorem om0_chk : chkO om0 = 0 := om0_right
theorem om0_objL : objL om0 = [109,0,0,0,0,0,0,0,0] := by decide
theorem om0_objS : objS om0 = tx [109,0,0,0,0,0,0,0,0] := by
 unfold objS
 rw [if_neg (by rw [om0_chk]; decide),om0_objL]
theorem om0_in (Rl : List (Nat × Obj)) : InO Rl om0 := ⟨InM.zero _,InC.zero _,d0_len⟩
theorem par0 : parE [109,0,0,0,0,0,0,0,0] = 0 := by
 have h := (write_back (o := om0) om0_chk (om0_in []) (fun r hr => by cases hr) (by decide)).1
 rw [om0_objL] at h; exact h
theorem om0_k {x : OM} (h : ParC [109,0,0,0,0,0,0,0,0] x) : x.k = 109 := h.k
theorem cloU0 (w : World) :
  Calls Tryz.prog 35 #[.slice none 0 0] w fun e w' => e = .returned (.slice none 0 0) ∧ Ext [] w w' := by
 refine enter [] [] [] Tryz.func35 rfl kr (HP.start w) ?_
 refine Rq [0] ?_
 refine Rq [0,4] ?_
 refine Cfg.condT rfl (b := true) kr rfl ?_
 refine Rq [2] ?_
 refine Cfg.ret rfl (rs := [.tmp 2]) rfl [.slice none 0 0] ⟨kr,trivial⟩ (fun w1 hp => ?_)
 exact ⟨rfl,hp.ext⟩
theorem cloE0 (w : World) :
  Calls Tryz.prog 36 #[.slice none 0 0] w fun e w' => e = .returned (.slice none 0 0) ∧ Ext [] w w' := by
 refine enter [] [] [] Tryz.func36 rfl kr (HP.start w) ?_
 refine Rq [0] ?_
 refine Rq [0,4] ?_
 refine Cfg.condT rfl (b := true) kr rfl ?_
 refine Rq [2] ?_
 refine Cfg.ret rfl (rs := [.tmp 2]) rfl [.slice none 0 0] ⟨kr,trivial⟩ (fun w1 hp => ?_)
 exact ⟨rfl,hp.ext⟩
set_option maxHeartbeats 8000000 in
theorem eMap0 (w : World) :
  Calls Tryz.prog 11 #[.agg (mc m0).toArray] w fun e w' => e = .returned (.agg (oc om0).toArray) ∧ Ext [] w w' := by
 refine enter [] [] [] Tryz.func11 rfl kr (HP.start w) ?_
 refine Cfg.begL rfl ?_
 refine Le (Eff.box (v := .agg (mc m0).toArray) rfl kr) ?_
 rintro mb ⟨hmb,nmb⟩
 refine Le (Eff.alloc (z := (.agg (oc ⟨0,m0,c0,t0⟩).toArray)) rfl kr) ?_
 rintro rs ⟨hrs,nrs⟩
 refine CfgL.done rfl ?_
 refine Cg (Γ' := [(2,[],pT rs),(1,[],pT mb)]) ?_
 refine Cfg.begA rfl kr [(rs,.cells ((oc ⟨0,m0,c0,t0⟩).toArray) 38 (0,0)),(mb,.cells ((mc m0).toArray) 28 (0,0))] ?_
 refine Ap [0,1,2,4,5,6] [dZ,dZ,(dS (.slice none 0 0)),dZ,dZ,(dS (.slice none 0 0))] (some [1,2,8,12]) (bF 119 12) (.cons_cons _ (.cons_cons _ .slnil)) 6 (fun S => [(cE S mb 0 (.slice none 0 0)),(cE S mb 1 (.slice none 0 0))]) ⟨(oC 1 rfl rfl),(oC 1 rfl rfl),trivial⟩ ?_
 refine CfgA.two 3 10 kr (fuel' := 5) rfl ?_ ?_
 ·
  refine Iu rfl  (Eff.callA (.slice none 0 0) rfl Tryz.func35 rfl rfl kr (fun w1 _ => cloU0 w1)) (fun _ _ => (.cons_cons _ (.cons_cons _ .slnil))) ?_
  refine CfgA.two 7 10 kr (fuel' := 4) rfl ?_ ?_
  ·
   refine Iu rfl  (Eff.callA (.slice none 0 0) rfl Tryz.func36 rfl rfl kr (fun w1 _ => cloE0 w1)) (fun _ _ => (.cons_cons _ (.cons_cons _ .slnil))) ?_
   refine Ap [8,9] [(dS (.agg (gc m0).toArray)),(dS (.agg (mc m0).toArray))] (some [1,2,15]) (tF 10 2) (.cons_cons _ (.cons_cons _ .slnil)) 2 (fun S => [(∀ w1,S w1 → (Instr.build 25 #[(0,.slice none 0 0),(1,.slice none 0 0)]).run Tryz.prog w1 = .ok (.agg (gc m0).toArray) w1),(∀ w1,S w1 → (Instr.build 28 #[(0,.agg (gc m0).toArray)]).run Tryz.prog w1 = .ok (.agg (mc m0).toArray) w1)]) ⟨(fun w1 _ => kr),(fun w1 _ => kr),trivial⟩ ?_
   refine Ae 10 rfl 1  (Eff.alloc (z := (.agg #[.slice none 0 0,.slice none 0 0,.slice none 0 0])) rfl kr) (fun _ _ => (.cons _ (.cons_cons _ (.cons_cons _ .slnil)))) ?_
   rintro m2 ⟨hm2,nm2⟩
   refine Au 11 rfl 0  (Eff.storeN (b := m2) (off := 0) (vs := (mc m0).toArray) (n := 3) rfl kr kr kr rfl (by intro v hv; simp only [mc,List.mem_cons,List.not_mem_nil,or_false] at hv; rcases hv with rfl | rfl | rfl <;> rfl) 0 (cs := #[.slice none 0 0,.slice none 0 0,.slice none 0 0]) (e := 28) kr (by decide)) (fun _ _ => (.cons _ (.cons_cons _ (.cons_cons _ .slnil)))) ?_
   refine oA 0 rfl (show _ = ((mc m0).toArray) from rfl) ?_
   refine CfgA.done kr ?_
   refine Cg (Γ' := [(3,[],pT m2),(2,[],pT rs),(1,[],pT mb)]) ?_
   refine Rg [2,3,17,18,19] [dZ,(dS (.slice none 0 0))] (fun S => [(cE S mb 2 (.slice none 0 0))]) ⟨(oC 2 rfl rfl),trivial⟩ ?_
   refine Cfg.loop rfl (ι := Unit) (fun (xz : Unit) => match xz with | () => [(19,[],.int .i64 0),(18,[],.int .i64 (0 : Int)),(17,[],.slice none 0 0),(3,[],pT m2),(2,[],pT rs)]) (fun (xz : Unit) => match xz with | () => [(m2,.cells ((mc m0).toArray) 28 (0,0)),(rs,.cells ((oc ⟨0,m0,c0,t0⟩).toArray) 38 (0,0)),(mb,.cells ((mc m0).toArray) 28 (0,0))]) (fun (xz : Unit) => match xz with | () => True) (fun (xz : Unit) => match xz with | () => 0) () ?_ (Conv.mk kr) (.cons_cons _ (.cons_cons _ (.cons_cons _ .slnil))) ?_
   ·exact trivial
   ·rintro ⟨⟩ -
    refine Rq [2,3,17,18,19,20] ?_
    refine Cfg.condF rfl (b := (decide ((0 : Int) < (0 : Int)))) kr (by decide) ?_
    refine Cfg.begL rfl ?_
    refine Lp 2 [(dS (.agg (mc m0).toArray)),(dS (.agg (oc om0).toArray))] (some [2,32]) (fun S => [(∀ w1,S w1 → (loadVar 28 ⟨m2,0,none⟩).run Tryz.prog w1 = .ok (.agg (mc m0).toArray) w1),(∀ w1,S w1 → (Instr.build 38 #[(0,.int .u8 109),(1,.agg (mc m0).toArray)]).run Tryz.prog w1 = .ok (.agg (oc om0).toArray) w1)]) ⟨(fun w1 h => h.oload 0 rfl Tryz.underlying28 rfl (n := 3) kr rfl),(fun w1 _ => kr),trivial⟩ ?_
    refine Lu (Eff.storeN (b := rs) (off := 0) (vs := (oc om0).toArray) (n := 72) rfl kr kr kr rfl (fun q hq => all_oc _ q hq) 1 (cs := (oc ⟨0,m0,c0,t0⟩).toArray) (e := 38) kr (by decide)) ?_
    refine oL 1 rfl (show _ = ((oc om0).toArray) from spl_all rfl) ?_
    refine CfgL.done rfl ?_
    refine Cg (Γ' := [(2,[],pT rs)]) ?_
    refine Cfg.ret rfl (rs := [.cell 2 38]) rfl [.agg (oc om0).toArray] ⟨⟨_,by kernel_rfl,(fun w1 h => h.oload 1 rfl Tryz.underlying38 rfl (n := 72) kr rfl)⟩,trivial⟩ (fun w1 hp => ?_)
    exact ⟨rfl,hp.ext⟩
  ·
   refine Ie rfl  (Eff.alloc (z := (.agg #[.slice none 0 0,.slice none 0 0,.slice none 0 0])) rfl kr) (fun _ _ => (.cons _ (.cons_cons _ (.cons_cons _ .slnil)))) ?_
   rintro m2 ⟨hm2,nm2⟩
   refine Au 7 rfl 3  (Eff.callA (.slice none 0 0) rfl Tryz.func36 rfl rfl kr (fun w1 _ => cloE0 w1)) (fun _ _ => (.cons _ (.cons_cons _ (.cons_cons _ .slnil)))) ?_
   refine Ap [8,9] [(dS (.agg (gc m0).toArray)),(dS (.agg (mc m0).toArray))] (some [1,2,3,15]) (tF 11 1) (.cons _ (.cons_cons _ (.cons_cons _ .slnil))) 1 (fun S => [(∀ w1,S w1 → (Instr.build 25 #[(0,.slice none 0 0),(1,.slice none 0 0)]).run Tryz.prog w1 = .ok (.agg (gc m0).toArray) w1),(∀ w1,S w1 → (Instr.build 28 #[(0,.agg (gc m0).toArray)]).run Tryz.prog w1 = .ok (.agg (mc m0).toArray) w1)]) ⟨(fun w1 _ => kr),(fun w1 _ => kr),trivial⟩ ?_
   refine Au 11 rfl 0  (Eff.storeN (b := m2) (off := 0) (vs := (mc m0).toArray) (n := 3) rfl kr kr kr rfl (by intro v hv; simp only [mc,List.mem_cons,List.not_mem_nil,or_false] at hv; rcases hv with rfl | rfl | rfl <;> rfl) 0 (cs := #[.slice none 0 0,.slice none 0 0,.slice none 0 0]) (e := 28) kr (by decide)) (fun _ _ => (.cons _ (.cons_cons _ (.cons_cons _ .slnil)))) ?_
   refine oA 0 rfl (show _ = ((mc m0).toArray) from rfl) ?_
   refine CfgA.done kr ?_
   refine Cg (Γ' := [(3,[],pT m2),(2,[],pT rs),(1,[],pT mb)]) ?_
   refine Rg [2,3,17,18,19] [dZ,(dS (.slice none 0 0))] (fun S => [(cE S mb 2 (.slice none 0 0))]) ⟨(oC 2 rfl rfl),trivial⟩ ?_
   refine Cfg.loop rfl (ι := Unit) (fun (xz : Unit) => match xz with | () => [(19,[],.int .i64 0),(18,[],.int .i64 (0 : Int)),(17,[],.slice none 0 0),(3,[],pT m2),(2,[],pT rs)]) (fun (xz : Unit) => match xz with | () => [(m2,.cells ((mc m0).toArray) 28 (0,0)),(rs,.cells ((oc ⟨0,m0,c0,t0⟩).toArray) 38 (0,0)),(mb,.cells ((mc m0).toArray) 28 (0,0))]) (fun (xz : Unit) => match xz with | () => True) (fun (xz : Unit) => match xz with | () => 0) () ?_ (Conv.mk kr) (.cons_cons _ (.cons_cons _ (.cons_cons _ .slnil))) ?_
   ·exact trivial
   ·rintro ⟨⟩ -
    refine Rq [2,3,17,18,19,20] ?_
    refine Cfg.condF rfl (b := (decide ((0 : Int) < (0 : Int)))) kr (by decide) ?_
    refine Cfg.begL rfl ?_
    refine Lp 2 [(dS (.agg (mc m0).toArray)),(dS (.agg (oc om0).toArray))] (some [2,32]) (fun S => [(∀ w1,S w1 → (loadVar 28 ⟨m2,0,none⟩).run Tryz.prog w1 = .ok (.agg (mc m0).toArray) w1),(∀ w1,S w1 → (Instr.build 38 #[(0,.int .u8 109),(1,.agg (mc m0).toArray)]).run Tryz.prog w1 = .ok (.agg (oc om0).toArray) w1)]) ⟨(fun w1 h => h.oload 0 rfl Tryz.underlying28 rfl (n := 3) kr rfl),(fun w1 _ => kr),trivial⟩ ?_
    refine Lu (Eff.storeN (b := rs) (off := 0) (vs := (oc om0).toArray) (n := 72) rfl kr kr kr rfl (fun q hq => all_oc _ q hq) 1 (cs := (oc ⟨0,m0,c0,t0⟩).toArray) (e := 38) kr (by decide)) ?_
    refine oL 1 rfl (show _ = ((oc om0).toArray) from spl_all rfl) ?_
    refine CfgL.done rfl ?_
    refine Cg (Γ' := [(2,[],pT rs)]) ?_
    refine Cfg.ret rfl (rs := [.cell 2 38]) rfl [.agg (oc om0).toArray] ⟨⟨_,by kernel_rfl,(fun w1 h => h.oload 1 rfl Tryz.underlying38 rfl (n := 72) kr rfl)⟩,trivial⟩ (fun w1 hp => ?_)
    exact ⟨rfl,hp.ext⟩
 ·
  refine Ie rfl  (Eff.alloc (z := (.agg #[.slice none 0 0,.slice none 0 0,.slice none 0 0])) rfl kr) (fun _ _ => (.cons _ (.cons_cons _ (.cons_cons _ .slnil)))) ?_
  rintro m2 ⟨hm2,nm2⟩
  refine Au 3 rfl 4  (Eff.callA (.slice none 0 0) rfl Tryz.func35 rfl rfl kr (fun w1 _ => cloU0 w1)) (fun _ _ => (.cons _ (.cons_cons _ (.cons_cons _ .slnil)))) ?_
  refine Au 7 rfl 3  (Eff.callA (.slice none 0 0) rfl Tryz.func36 rfl rfl kr (fun w1 _ => cloE0 w1)) (fun _ _ => (.cons _ (.cons_cons _ (.cons_cons _ .slnil)))) ?_
  refine Ap [8,9] [(dS (.agg (gc m0).toArray)),(dS (.agg (mc m0).toArray))] (some [1,2,3,15]) (tF 11 1) (.cons _ (.cons_cons _ (.cons_cons _ .slnil))) 1 (fun S => [(∀ w1,S w1 → (Instr.build 25 #[(0,.slice none 0 0),(1,.slice none 0 0)]).run Tryz.prog w1 = .ok (.agg (gc m0).toArray) w1),(∀ w1,S w1 → (Instr.build 28 #[(0,.agg (gc m0).toArray)]).run Tryz.prog w1 = .ok (.agg (mc m0).toArray) w1)]) ⟨(fun w1 _ => kr),(fun w1 _ => kr),trivial⟩ ?_
  refine Au 11 rfl 0  (Eff.storeN (b := m2) (off := 0) (vs := (mc m0).toArray) (n := 3) rfl kr kr kr rfl (by intro v hv; simp only [mc,List.mem_cons,List.not_mem_nil,or_false] at hv; rcases hv with rfl | rfl | rfl <;> rfl) 0 (cs := #[.slice none 0 0,.slice none 0 0,.slice none 0 0]) (e := 28) kr (by decide)) (fun _ _ => (.cons _ (.cons_cons _ (.cons_cons _ .slnil)))) ?_
  refine oA 0 rfl (show _ = ((mc m0).toArray) from rfl) ?_
  refine CfgA.done kr ?_
  refine Cg (Γ' := [(3,[],pT m2),(2,[],pT rs),(1,[],pT mb)]) ?_
  refine Rg [2,3,17,18,19] [dZ,(dS (.slice none 0 0))] (fun S => [(cE S mb 2 (.slice none 0 0))]) ⟨(oC 2 rfl rfl),trivial⟩ ?_
  refine Cfg.loop rfl (ι := Unit) (fun (xz : Unit) => match xz with | () => [(19,[],.int .i64 0),(18,[],.int .i64 (0 : Int)),(17,[],.slice none 0 0),(3,[],pT m2),(2,[],pT rs)]) (fun (xz : Unit) => match xz with | () => [(m2,.cells ((mc m0).toArray) 28 (0,0)),(rs,.cells ((oc ⟨0,m0,c0,t0⟩).toArray) 38 (0,0)),(mb,.cells ((mc m0).toArray) 28 (0,0))]) (fun (xz : Unit) => match xz with | () => True) (fun (xz : Unit) => match xz with | () => 0) () ?_ (Conv.mk kr) (.cons_cons _ (.cons_cons _ (.cons_cons _ .slnil))) ?_
  ·exact trivial
  ·rintro ⟨⟩ -
   refine Rq [2,3,17,18,19,20] ?_
   refine Cfg.condF rfl (b := (decide ((0 : Int) < (0 : Int)))) kr (by decide) ?_
   refine Cfg.begL rfl ?_
   refine Lp 2 [(dS (.agg (mc m0).toArray)),(dS (.agg (oc om0).toArray))] (some [2,32]) (fun S => [(∀ w1,S w1 → (loadVar 28 ⟨m2,0,none⟩).run Tryz.prog w1 = .ok (.agg (mc m0).toArray) w1),(∀ w1,S w1 → (Instr.build 38 #[(0,.int .u8 109),(1,.agg (mc m0).toArray)]).run Tryz.prog w1 = .ok (.agg (oc om0).toArray) w1)]) ⟨(fun w1 h => h.oload 0 rfl Tryz.underlying28 rfl (n := 3) kr rfl),(fun w1 _ => kr),trivial⟩ ?_
   refine Lu (Eff.storeN (b := rs) (off := 0) (vs := (oc om0).toArray) (n := 72) rfl kr kr kr rfl (fun q hq => all_oc _ q hq) 1 (cs := (oc ⟨0,m0,c0,t0⟩).toArray) (e := 38) kr (by decide)) ?_
   refine oL 1 rfl (show _ = ((oc om0).toArray) from spl_all rfl) ?_
   refine CfgL.done rfl ?_
   refine Cg (Γ' := [(2,[],pT rs)]) ?_
   refine Cfg.ret rfl (rs := [.cell 2 38]) rfl [.agg (oc om0).toArray] ⟨⟨_,by kernel_rfl,(fun w1 h => h.oload 1 rfl Tryz.underlying38 rfl (n := 72) kr rfl)⟩,trivial⟩ (fun w1 hp => ?_)
   exact ⟨rfl,hp.ext⟩
theorem shaAwake1 {tt0 : TypeId} {fr0 : Nat × Nat} (w : World) (hR : Has w [(0,Obj.cells (wv Kc) tt0 fr0)]) :
  Calls Tryz.prog 12 #[] w fun e w' => e = .returned (.bool true) ∧ Ext [] w w' := by
 refine enter [] [(0,Obj.cells (wv Kc) tt0 fr0)] [] Tryz.func12 rfl kr (HP.ofHas hR) ?_
 refine Rq [] ?_
 refine Cfg.begL rfl ?_
 refine Lu (Eff.callA (.bool true) rfl Tryz.func37 rfl rfl kr (fun w1 h => shaAwake w1 (h.hasR (fun e he => he)))) ?_
 refine Ld 1 [0] ?_
 refine Cfg.ret rfl (rs := [.tmp 0]) rfl [.bool true] ⟨kr,trivial⟩ (fun w1 hp => ?_)
 exact ⟨rfl,hp.ext⟩
set_option maxHeartbeats 8000000 in
theorem awake12 {tt0 : TypeId} {fr0 : Nat × Nat} (w : World) (hR : Has w [(0,Obj.cells (wv Kc) tt0 fr0)]) :
  Calls Tryz.prog 4 #[] w fun e w' => e = .returned (.bool true) ∧ Ext [] w w' := by
 refine enter [] [(0,Obj.cells (wv Kc) tt0 fr0)] [] Tryz.func4 rfl kr (HP.ofHas hR) ?_
 refine Rq [] ?_
 refine Cfg.begL rfl ?_
 refine Lp 1 [(dS (.agg (mc m0).toArray))] none (fun S => [(∀ w1,S w1 → (Instr.build 28 #[]).run Tryz.prog w1 = .ok (.agg (mc m0).toArray) w1)]) ⟨(fun w1 _ => kr),trivial⟩ ?_
 refine Lu (Eff.callA (.agg (oc om0).toArray) rfl Tryz.func11 rfl rfl kr (fun w1 _ => eMap0 w1)) ?_
 refine Lu (Eff.callA (vs := [.agg (oc om0).toArray]) (.tuple #[.string (tx [109,0,0,0,0,0,0,0,0]),.int .i64 0]) rfl Tryz.func6 rfl rfl kr (fun w1 _ => by have h9 := oByt om0 [] w1 (om0_in []) (fun e he => by cases he) (fun r hr => by cases hr) (by decide) (by decide) (by decide); rw [om0_objS,om0_chk] at h9; exact h9)) ?_
 refine Ld 5 [1,2] ?_
 refine Cfg.begL rfl ?_
 refine Lp 1 [] none n0 trivial ?_
 refine Le (Eff.callH (vs := [.string (tx [109,0,0,0,0,0,0,0,0])]) (fun q : PQ => .tuple #[.agg (oc q.o).toArray,.int .i64 0]) [] (fun q => q.mem) (fun q => q.Ok [109,0,0,0,0,0,0,0,0]) ([]) [] (by rfl) rfl Tryz.func7 rfl rfl kr (fun w1 _ _ _ => by have h9 := oParse [109,0,0,0,0,0,0,0,0] w1 (by decide); rw [par0] at h9; exact h9)) ?_
 rintro q hq
 have hqi := hq.i
 have hk := om0_k (hq.ok par0)
 refine Lq 3 [1,2,14,15] ?_
 refine Le (Eff.alloc (z := (.agg (oc ⟨0,m0,c0,t0⟩).toArray)) rfl kr) ?_
 rintro ob ⟨hob,nob⟩
 refine Lu (Eff.storeN (b := ob) (off := 0) (vs := (oc q.o).toArray) (n := 72) rfl kr kr kr (oc_size _ hqi.c.d hqi.t) (fun q hq => all_oc _ q hq) 0 (cs := (oc ⟨0,m0,c0,t0⟩).toArray) (e := 38) kr (by rw [oc_size _ d0_len d0_len]; decide)) ?_
 refine CfgL.setO (congrArg (fun (xq : Array Value) => (([(ob,.cells xq 38 (0,0))] ++ (PQ.mem q ++ [])) : LO)) (show _ = ((oc q.o).toArray) from spl_all ((oc_size _ hqi.c.d hqi.t).trans (oc_size _ d0_len d0_len).symm))) ?_
 refine Ld 1 [1,2,3,4] ?_
 refine Cfg.begL rfl ?_
 refine Lp 16 [dZ,dZ,dZ,(1,false,none),(1,false,none),dZ,dZ,dZ,dZ,dZ,dZ,dZ,(dS (.int .u8 (q.o.k : Int)))] (some [31]) (fun S => [((.bool true : Value) = .bool true),((.bool true : Value) = .bool true),((.bool (((tx [109,0,0,0,0,0,0,0,0]).toList == (⟨#[109,0,0,0,0,0,0,0,0]⟩ : ByteArray).toList) && true) : Value) = .bool true → (cE S ob 0 (.int .u8 (q.o.k : Int))))]) ⟨rfl,rfl,(fun g0 => have q0 : ((((tx [109,0,0,0,0,0,0,0,0]).toList == (⟨#[109,0,0,0,0,0,0,0,0]⟩ : ByteArray).toList) = true) ∧ (true = true)) := ⟨(andT1 (boolV g0)),(andT2 (boolV g0))⟩; (oC 0 rfl rfl)),trivial⟩ ?_
 refine CfgL.known 31 (b := ((((tx [109,0,0,0,0,0,0,0,0]).toList == (⟨#[109,0,0,0,0,0,0,0,0]⟩ : ByteArray).toList) && true) && ((q.o.k : Int) == (109 : Int)))) kr true (by rw [hk,show (tx [109,0,0,0,0,0,0,0,0]) = (⟨#[109,0,0,0,0,0,0,0,0]⟩ : ByteArray) from rfl,beq_self_eq_true]; rfl) ?_
 refine Lu (Eff.callA (.bool true) rfl Tryz.func12 rfl rfl kr (fun w1 h => shaAwake1 w1 (h.hasR (fun e he => he)))) ?_
 refine CfgL.pure 2 [] (some [34]) (Γ' := [(34,[],.bool true)]) (nd := (fun _ => [])) kr (fun _ => kr) trivial ?_
 refine Lu (Eff.callA (.bool true) rfl Tryz.func13 rfl rfl kr (fun w1 _ => awake10A w1)) ?_
 refine Ld 2 [0] ?_
 refine Cfg.ret rfl (rs := [.tmp 0]) rfl [.bool true] ⟨kr,trivial⟩ (fun w1 hp => ?_)
 exact ⟨rfl,hp.ext⟩
end Go.Proofs.YtbeeelgfhfmgbaaGreatDoor
namespace Go.Proofs.YtbeeelgfhfmgbaaGreatDoor
namespace K
section
variable {C : Cx} {R O : List (Nat × Obj)} {Γ : Env} {op : Oper}
theorem Eff.appendE {t e : TypeId} {x1 x2 : Operand} (ho : op.op = .call ⟨.builtin .append,#[x1,x2],#[t,t]⟩) (sz : Nat) (ht : C.P.underlying t = some (.slice e)) (hsz : (C.P.info? e).map (·.size) = some sz)
  {base la : Option Addr} {n c c2 : Nat} (h1 : opd Γ [] x1 = some (.slice base n c)) (hn : n ≤ c) {m : Nat} (h2 : opd Γ [] x2 = some (.slice la m c2)) (hm : m = 0) : Eff C R O Γ op Unit (fun _ => .slice base n c) (fun _ => O) (fun _ => True) := by
 subst hm
 refine Eff.of_run fun a w hs hp => ⟨(),w,trivial,?_,hp⟩
 obtain ⟨inf,hi,hse⟩ := Option.map_eq_some_iff.1 hsz
 have hx1 := opd_ok hs (holds_nil _) h1
 have hx2 := opd_ok hs (holds_nil _) h2
 cases base <;> cases la <;> simp [execOp,ho,resolve,invoke,builtin,hx1,hx2,Builtin.append_,run_underlying' ht,run_sizeOf' hi,Builtin.lenOf,Builtin.firstCells,loadCells,loadCellsFrom,storeCells,hn]
end
end K
end Go.Proofs.YtbeeelgfhfmgbaaGreatDoor
namespace Go.Proofs.YtbeeelgfhfmgbaaGreatDoor
namespace K
theorem Eff.addW {C : Cx} {R O : List (Nat × Obj)} {Γ : Env} {op : Oper} {ty ty2 : TypeId} {x y : Operand} {k : IntKind} {a b : Int} (ho : op.op = .binOp .add ty x y ty2) (hx : opd Γ [] x = some (.int k a)) (hy : opd Γ [] y = some (.int k b)) :
  Eff C R O Γ op Unit (fun _ => .int k (k.wrap (a + b))) (fun _ => O) (fun _ => True) :=
 Eff.of_run fun c w hs hp => ⟨(),w,trivial,by
  simp only [execOp,ho]
  refine run_v ?_
  rw [opd_ok hs (holds_nil _) hx,opd_ok hs (holds_nil _) hy]
  simp [eqGuard,binOp,Op.intArith],hp⟩
end K
end Go.Proofs.YtbeeelgfhfmgbaaGreatDoor
namespace Go.Proofs.YtbeeelgfhfmgbaaGreatDoor
open K
set_option linter.unusedVariables false
theorem own_one {lb : Nat} {d : List UInt8} (hd : d.length = 32) : OwnOk (some (lb,1,[])) 32 1 (dgc d) := ⟨by rw [dgc_len hd],fun h => (by cases h),fun p hp => by simp only [Option.some.injEq] at hp; subst hp; simp [dgc_len hd]⟩
theorem links_one {d : List UInt8} (hd : d.length = 32) {w w' : World} {lb : Nat} {R O : List (Nat × Obj)} {l : List (List UInt8)} (hl : l = [d]) (hp : HP w [] R O w') (hm : (lb,Obj.cells (bv d) 30 (0,0)) ∈ O) :
  ∃ ow : K.Own,OwnOk ow 32 l.length (l.flatMap dgc) ∧ Ending.returned (.slice (some ⟨lb,0,none⟩) 1 1) = .returned (.slice ow.a l.length ow.c) ∧ Has w' (ow.o 30 (l.flatMap dgc)) ∧ (∀ x ∈ ow.o 30 (l.flatMap dgc),w.heap.size ≤ x.1) ∧ Ext [] w w' := by
 subst hl
 have e : ([d] : List (List UInt8)).flatMap dgc = dgc d := by simp
 have e2 : Own.o 30 (dgc d) (some (lb,1,[])) = [(lb,.cells (bv d) 30 (0,0))] := by simp [Own.o,dgc]
 rw [e]
 refine ⟨some (lb,1,[]),own_one hd,rfl,fun x hx => ?_,fun x hx => ?_,hp.ext⟩
 ·rw [e2] at hx
  rw [List.mem_singleton.1 hx]; exact hp.own _ hm
 ·rw [e2] at hx
  rw [List.mem_singleton.1 hx]; exact (hp.mine _ hm).resolve_right (fun h => by cases h)
def lk (o : OM) : List (List UInt8) := if o.k = 99 then o.c.d :: o.c.ps else if o.k = 116 then [o.t.d] else []
set_option maxHeartbeats 4000000 in
theorem oLinks (o : OM) (Rl : List (Nat × Obj)) (w : World) (hO : InO Rl o) (hR : Has w Rl) (hn : (lk o).length ≤ 1000) :
  Calls Tryz.prog 10 #[.agg (oc o).toArray] w fun e w' => ∃ ow : K.Own,OwnOk ow 32 (lk o).length ((lk o).flatMap dgc) ∧ e = .returned (.slice ow.a (lk o).length ow.c) ∧ Has w' (ow.o 30 ((lk o).flatMap dgc)) ∧ (∀ x ∈ ow.o 30 ((lk o).flatMap dgc),w.heap.size ≤ x.1) ∧ Ext [] w w' := by
 have hoc := hO.c.d
 have hot := hO.t
 refine enter [] Rl [] Tryz.func10 rfl kr (HP.ofHas hR) ?_
 refine Cfg.begL rfl ?_
 refine Le (Eff.box (v := .agg (oc o).toArray) rfl kr) ?_
 rintro bx ⟨hbx,nbx⟩
 refine Ld 1 [1] ?_
 refine Rg [1,4] [dZ,(dS (.int .u8 (o.k : Int)))] (fun S => [(cE S bx 0 (.int .u8 (o.k : Int)))]) ⟨(fun w1 h => h.ocell 0 rfl (by rw [List.getElem?_toArray]; exact rfl)),trivial⟩ ?_
 refine Rq [1,4,5] ?_
 refine Cfg.cond rfl (b := ((o.k : Int) == (99 : Int))) kr (fun c1r => ?_) (fun c1r => ?_)
 ·have c1 := (beq_iff_eq.1 c1r)
  by_cases hps : o.c.ps = []
  ·
   refine Cfg.begL rfl ?_
   refine Lp 3 [dZ,dZ,(dS (.agg (bv o.c.d)))] (some [1,9]) (fun S => [(∀ w1,S w1 → (loadVar 30 ⟨bx,4,none⟩).run Tryz.prog w1 = .ok (.agg (bv o.c.d)) w1)]) ⟨(fun w1 h => load_list (vs := dgc o.c.d) Tryz.underlying30 rfl kr (dgc_len hoc) (fun j v hj => h.ocell 0 rfl (by rw [List.getElem?_toArray]; exact (fun j v hj => oc_com (cc_d hj)) j v hj))),trivial⟩ ?_
   refine Le (Eff.buildAgg (vs := (bv o.c.d)) (n := 32) rfl kr Tryz.underlying31 kr (z := (.agg #[.int .u8 0,.int .u8 0,.int .u8 0,.int .u8 0,.int .u8 0,.int .u8 0,.int .u8 0,.int .u8 0,.int .u8 0,.int .u8 0,.int .u8 0,.int .u8 0,.int .u8 0,.int .u8 0,.int .u8 0,.int .u8 0,.int .u8 0,.int .u8 0,.int .u8 0,.int .u8 0,.int .u8 0,.int .u8 0,.int .u8 0,.int .u8 0,.int .u8 0,.int .u8 0,.int .u8 0,.int .u8 0,.int .u8 0,.int .u8 0,.int .u8 0,.int .u8 0])) kr ((bv_size _).trans hoc) (by decide) (by decide)) ?_
   rintro lb ⟨hlb,nlb⟩
   refine Lp 3 [dZ,dZ,(dS (.slice o.c.pa o.c.ps.length o.c.pc))] (some [10,13]) (fun S => [(cE S bx 36 (.slice o.c.pa o.c.ps.length o.c.pc))]) ⟨(fun w1 h => h.ocell 1 rfl (by rw [List.getElem?_toArray]; exact (oc_com (j := 32) (cc_p hoc)))),trivial⟩ ?_
   refine Lu (Eff.appendE rfl 32 Tryz.underlying31 kr (base := some ⟨lb,0,none⟩) (n := 1) (c := 1) kr (Nat.le_refl _) (m := o.c.ps.length) (la := o.c.pa) (c2 := o.c.pc) kr (by rw [hps]; rfl)) ?_
   refine Ld 1 [2] ?_
   refine Cfg.ret rfl (rs := [.tmp 2]) rfl [.slice (some ⟨lb,0,none⟩) 1 1] ⟨kr,trivial⟩ (fun w1 hp => ?_)
   have hl : lk o = [o.c.d] := by rw [lk,if_pos om,hps]
   exact links_one hoc hl hp (by simp)
  ·
   have hlb : o.c.ps.length + 1 ≤ 1000 := by have hl : lk o = o.c.d :: o.c.ps := if_pos om; rw [hl,List.length_cons] at hn; exact hn
   obtain ⟨sa,offa,csa,tea,frea,hpa,hma,hca⟩ := hO.c.p (by have : o.c.ps.length ≠ 0 := fun e => hps (List.eq_nil_of_length_eq_zero e); omega)
   refine Cfg.begL rfl ?_
   refine Lp 3 [dZ,dZ,(dS (.agg (bv o.c.d)))] (some [1,9]) (fun S => [(∀ w1,S w1 → (loadVar 30 ⟨bx,4,none⟩).run Tryz.prog w1 = .ok (.agg (bv o.c.d)) w1)]) ⟨(fun w1 h => load_list (vs := dgc o.c.d) Tryz.underlying30 rfl kr (dgc_len hoc) (fun j v hj => h.ocell 0 rfl (by rw [List.getElem?_toArray]; exact (fun j v hj => oc_com (cc_d hj)) j v hj))),trivial⟩ ?_
   refine Le (Eff.buildAgg (vs := (bv o.c.d)) (n := 32) rfl kr Tryz.underlying31 kr (z := (.agg #[.int .u8 0,.int .u8 0,.int .u8 0,.int .u8 0,.int .u8 0,.int .u8 0,.int .u8 0,.int .u8 0,.int .u8 0,.int .u8 0,.int .u8 0,.int .u8 0,.int .u8 0,.int .u8 0,.int .u8 0,.int .u8 0,.int .u8 0,.int .u8 0,.int .u8 0,.int .u8 0,.int .u8 0,.int .u8 0,.int .u8 0,.int .u8 0,.int .u8 0,.int .u8 0,.int .u8 0,.int .u8 0,.int .u8 0,.int .u8 0,.int .u8 0,.int .u8 0])) kr ((bv_size _).trans hoc) (by decide) (by decide)) ?_
   rintro lb ⟨hlb,nlb⟩
   refine CfgL.pure 3 [dZ,dZ,(dS (.slice o.c.pa o.c.ps.length o.c.pc))] (some [10,13]) (Γ' := [(13,[],.slice o.c.pa o.c.ps.length o.c.pc),(10,[],.slice (some ⟨lb,0,none⟩) 1 1)]) (nd := (fun S => [(cE S bx 36 (.slice o.c.pa o.c.ps.length o.c.pc))])) kr (fun _ => kr) ⟨(fun w1 h => h.ocell 1 rfl (by rw [List.getElem?_toArray]; exact (oc_com (j := 32) (cc_p hoc)))),trivial⟩ ?_
   refine Le (Eff.appendA rfl 32 32 Tryz.underlying31 kr (z := (.agg #[.int .u8 0,.int .u8 0,.int .u8 0,.int .u8 0,.int .u8 0,.int .u8 0,.int .u8 0,.int .u8 0,.int .u8 0,.int .u8 0,.int .u8 0,.int .u8 0,.int .u8 0,.int .u8 0,.int .u8 0,.int .u8 0,.int .u8 0,.int .u8 0,.int .u8 0,.int .u8 0,.int .u8 0,.int .u8 0,.int .u8 0,.int .u8 0,.int .u8 0,.int .u8 0,.int .u8 0,.int .u8 0,.int .u8 0,.int .u8 0,.int .u8 0,.int .u8 0])) kr rfl (some (lb,1,[])) (n := 1) (xs := dgc o.c.d) (own_one hoc) kr ⟨sa,offa,none⟩ (m := o.c.ps.length) (c2 := o.c.pc) ((show _ = some (.slice o.c.pa o.c.ps.length o.c.pc) by kernel_rfl).trans (by rw [hpa])) (o.c.ps.flatMap dgc) (flat_len (fun x hx => dgc_len (hO.c.w x hx))) (one_flat all_dgc) (fun w1 h j v hj => clo_src (hpa ▸ hO.c.p) (fun x hx => dgc_len (hO.c.w x hx)) (h.hasR (fun e he => he)) hj) [(bx,.cells ((oc o).toArray) 38 (0,0))] (by simp [Own.o,dgc,Value.cells]) om om) ?_
   rintro ow ko
   refine Ld 1 [2] ?_
   refine Cfg.ret rfl (rs := [.tmp 2]) rfl [.slice (Own.a ow) ((1 + o.c.ps.length)) (Own.c ow)] ⟨kr,trivial⟩ (fun w1 hp => ?_)
   have hl : lk o = o.c.d :: o.c.ps := if_pos om
   rw [hl,List.flatMap_cons,List.length_cons,Nat.add_comm]
   exact ⟨ow,ko,rfl,fun x hx => hp.own x (by simp [hx]),fun x hx => (hp.mine x (by simp [hx])).resolve_right (fun h => by cases h),hp.ext⟩
 ·have c1 := (beq_eq_false_iff_ne.1 c1r)
  refine Rq [1,15] ?_
  refine Cfg.cond rfl (b := ((o.k : Int) == (116 : Int))) kr (fun c2r => ?_) (fun c2r => ?_)
  ·have c2 := (beq_iff_eq.1 c2r)
   refine Cfg.begL rfl ?_
   refine Lp 3 [dZ,dZ,(dS (.agg (bv o.t.d)))] (some [19]) (fun S => [(∀ w1,S w1 → (loadVar 30 ⟨bx,39,none⟩).run Tryz.prog w1 = .ok (.agg (bv o.t.d)) w1)]) ⟨(fun w1 h => load_list (vs := dgc o.t.d) Tryz.underlying30 rfl kr (dgc_len hot) (fun j v hj => h.ocell 0 rfl (by rw [List.getElem?_toArray]; exact (fun j v hj => oc_tag hoc (tc_d hj)) j v hj))),trivial⟩ ?_
   refine Le (Eff.buildAgg (vs := (bv o.t.d)) (n := 32) rfl kr Tryz.underlying31 kr (z := (.agg #[.int .u8 0,.int .u8 0,.int .u8 0,.int .u8 0,.int .u8 0,.int .u8 0,.int .u8 0,.int .u8 0,.int .u8 0,.int .u8 0,.int .u8 0,.int .u8 0,.int .u8 0,.int .u8 0,.int .u8 0,.int .u8 0,.int .u8 0,.int .u8 0,.int .u8 0,.int .u8 0,.int .u8 0,.int .u8 0,.int .u8 0,.int .u8 0,.int .u8 0,.int .u8 0,.int .u8 0,.int .u8 0,.int .u8 0,.int .u8 0,.int .u8 0,.int .u8 0])) kr ((bv_size _).trans hot) (by decide) (by decide)) ?_
   rintro lb ⟨hlb,nlb⟩
   refine Ld 1 [2] ?_
   refine Cfg.ret rfl (rs := [.tmp 2]) rfl [.slice (some ⟨lb,0,none⟩) 1 1] ⟨kr,trivial⟩ (fun w1 hp => ?_)
   have hl : lk o = [o.t.d] := by rw [lk,if_neg om,if_pos om]
   exact links_one hot hl hp (by simp)
  ·have c2 := (beq_eq_false_iff_ne.1 c2r)
   refine Rq [2] ?_
   refine Cfg.ret rfl (rs := [.tmp 2]) rfl [.slice none 0 0] ⟨kr,trivial⟩ (fun w1 hp => ?_)
   have hl : lk o = [] := by rw [lk,if_neg om,if_neg om]
   rw [hl]
   exact ⟨none,OwnOk.none 32,rfl,(fun e he => by cases he),(fun e he => by cases he),hp.ext⟩
set_option maxHeartbeats 4000000 in
theorem oLight (o : OM) (Rl : List (Nat × Obj)) (w : World) (hO : InO Rl o) (hR : Has w Rl) :
  Calls Tryz.prog 5 #[.agg (oc o).toArray] w fun e w' => ∃ b : Bool,(b = true → o.c.ps.length ≤ 9) ∧ e = .returned (.bool b) ∧ ∃ R1,HP w [] R1 [] w' := by
 have hoc := hO.c.d
 have hot := hO.t
 have hmn := hO.m.n
 refine enter [] Rl [] Tryz.func5 rfl kr (HP.ofHas hR) ?_
 refine Cfg.begL rfl ?_
 refine Le (Eff.box (v := .agg (oc o).toArray) rfl kr) ?_
 rintro bx ⟨hbx,nbx⟩
 refine Ld 1 [1] ?_
 refine Cfg.begL rfl ?_
 refine Ld 1 [1,3] ?_
 refine Cfg.begL rfl ?_
 refine Lp 5 [dZ,dZ,(dS (.slice o.m.ra o.m.rs.length o.m.rc))] (some [1,3,8,9,10]) (fun S => [(cE S bx 3 (.slice o.m.ra o.m.rs.length o.m.rc))]) ⟨(fun w1 h => h.ocell 0 rfl (by rw [List.getElem?_toArray]; exact rfl)),trivial⟩ ?_
 refine CfgL.done rfl ?_
 refine Cfg.loop rfl (ι := Nat × Int) (fun (xz : Nat × Int) => match xz with | (i,n) => [(10,[],iN i),(9,[],iN o.m.rs.length),(8,[],.slice o.m.ra o.m.rs.length o.m.rc),(3,[],.int .i64 n),(1,[],pT bx)]) (fun (xz : Nat × Int) => match xz with | (i,n) => [(bx,.cells ((oc o).toArray) 38 (0,0))]) (fun (xz : Nat × Int) => match xz with | (i,n) => (i ≤ o.m.rs.length)) (fun (xz : Nat × Int) => match xz with | (i,n) => o.m.rs.length - i) (0,0) ?_ (Conv.mk kr) (.cons_cons _ .slnil) ?_
 ·exact Nat.zero_le _
 ·rintro ⟨i,n⟩ hi
  refine Cfg.begL rfl ?_
  refine Ld 1 [1,3,8,9,10,11] ?_
  refine Cfg.cond rfl (b := (decide ((i : Int) < (o.m.rs.length : Int)))) kr (fun c1r => ?_) (fun c1r => ?_)
  ·have c1 := (dT c1r)
   obtain ⟨sa,offa,csa,tea,frea,hva,hma,hca⟩ := hO.m.r om
   refine Cfg.setS 8 (show .slice o.m.ra o.m.rs.length o.m.rc = .slice (some ⟨sa,offa,none⟩) o.m.rs.length o.m.rc from by rw [hva]) ?_
   refine Cfg.begL rfl ?_
   refine Lp 3 [dZ,(dS (.slice (o.m.rs.getD i rwz).a ((o.m.rs.getD i rwz).xs.length) ((o.m.rs.getD i rwz).c)))] (some [1,3,5,8,9,10]) (fun S => [(0 ≤ (i : Int) ∧ (i : Int) < (o.m.rs.length : Int)),(cE S sa (addO offa i) (.slice (o.m.rs.getD i rwz).a ((o.m.rs.getD i rwz).xs.length) ((o.m.rs.getD i rwz).c)))]) ⟨om,(fun w1 h => by rw [addO_eq]; exact (cell_cells (h.ro _ hma)).trans (fl_one (g := fun r : RowU => .slice r.a r.xs.length r.c) rwz hca om)),trivial⟩ ?_
   refine CfgL.done rfl ?_
   refine Cfg.begL rfl ?_
   refine Lq 3 [1,3,8,9,10,14,16] ?_
   refine Lu (Eff.addW (k := .i64) (a := n) (b := ((o.m.rs.getD i rwz).xs.length : Int)) rfl kr kr) ?_
   refine Ld 1 [1,3,8,9,10] ?_
   refine Cfg.begL rfl ?_
   refine Lp 2 [] (some [1,3,8,9,10]) (fun _ => [(i6 ((i : Int) + 1))]) ⟨om,trivial⟩ ?_
   refine CfgL.done rfl ?_
   refine Cfg.setS 8 (show .slice (some ⟨sa,offa,none⟩) o.m.rs.length o.m.rc = .slice o.m.ra o.m.rs.length o.m.rc from by rw [hva]) ?_
   refine Cfg.again rfl (i + 1,IntKind.i64.wrap (n + ((o.m.rs.getD i rwz).xs.length : Int))) (show i + 1 ≤ o.m.rs.length by omega) (by show o.m.rs.length - (i + 1) < o.m.rs.length - i; omega) (Conv.mk kr) (.cons_cons _ .slnil)
  ·have c1 := (dF c1r)
   refine Cfg.begL rfl ?_
   refine Lp 2 [dZ,(dS (.agg (mc o.m).toArray))] (some [1,3,20]) (fun S => [(∀ w1,S w1 → (loadVar 28 ⟨bx,1,none⟩).run Tryz.prog w1 = .ok (.agg (mc o.m).toArray) w1)]) ⟨(fun w1 h => load_list Tryz.underlying28 rfl kr rfl (fun j v hj => h.ocell 0 rfl (by rw [List.getElem?_toArray]; exact (fun j v hj => oc_map (by exact hj)) j v hj))),trivial⟩ ?_
   refine Lu (Eff.callA (.bool (fewF o.m)) rfl Tryz.func14 rfl rfl kr (fun w1 _ => oFew o.m w1)) ?_
   refine Lq 1 [1,3,22] ?_
   by_cases c2 : (fewF o.m) = true
   ·have c2k : (fewF o.m) = true := c2
    have c2q : ((fewF o.m) = true) := c2k
    refine CfgL.known 22 (b := (fewF o.m)) kr true c2k ?_
    refine Lp 4 [(1,false,none),(1,false,none)] (some [1,26]) (fun _ => [((.bool true : Value) = .bool true),((.bool true : Value) = .bool true)]) ⟨rfl,rfl,trivial⟩ ?_
    by_cases c3 : (decide (n ≤ (1000 : Int))) = true
    ·have c3k : (decide (n ≤ (1000 : Int))) = true := c3
     have c3q := (dT c3k)
     refine CfgL.known 26 (b := (decide (n ≤ (1000 : Int)))) kr true c3k ?_
     refine Lp 7 [(1,false,none),(1,false,none),(1,false,some (.slice o.c.pa o.c.ps.length o.c.pc)),(1,false,none),(1,false,none)] (some [1,33]) (fun S => [((.bool true : Value) = .bool true),((.bool true : Value) = .bool true),((.bool true : Value) = .bool true),(cE S bx 36 (.slice o.c.pa o.c.ps.length o.c.pc)),((.bool true : Value) = .bool true),((.bool true : Value) = .bool true)]) ⟨rfl,rfl,rfl,(fun w1 h => h.ocell 0 rfl (by rw [List.getElem?_toArray]; exact (oc_com (j := 32) (cc_p hoc)))),rfl,rfl,trivial⟩ ?_
     by_cases c4 : (decide ((o.c.ps.length : Int) ≤ (9 : Int))) = true
     ·have c4k : (decide ((o.c.ps.length : Int) ≤ (9 : Int))) = true := c4
      have c4q := (dT c4k)
      refine CfgL.known 33 (b := (decide ((o.c.ps.length : Int) ≤ (9 : Int)))) kr true c4k ?_
      refine Lp 8 [(1,false,none),(1,false,none),(1,false,some (.string o.c.t)),(1,false,none),(1,false,none),(1,false,none),(1,false,some (.string o.t.t)),(1,false,none)] (some [33,37,41]) (fun S => [((.bool true : Value) = .bool true),((.bool true : Value) = .bool true),((.bool true : Value) = .bool true),(cE S bx 38 (.string o.c.t)),((.bool true : Value) = .bool true),((.bool true : Value) = .bool true),((.bool true : Value) = .bool true),((.bool true : Value) = .bool true),(cE S bx 71 (.string o.t.t)),((.bool true : Value) = .bool true)]) ⟨rfl,rfl,rfl,(fun w1 h => h.ocell 0 rfl (by rw [List.getElem?_toArray]; exact (oc_com (j := 34) (cc_t hoc)))),rfl,rfl,rfl,rfl,(fun w1 h => h.ocell 0 rfl (by rw [List.getElem?_toArray]; exact (oc_tag hoc (j := 32) (tc_t hot)))),rfl,trivial⟩ ?_
      refine Lu (Eff.maxI (k := .i64) (a := (o.c.t.size : Int)) (b := (o.t.t.size : Int)) rfl kr kr) ?_
      refine Lp 3 [(1,false,none)] (some [2]) (fun _ => [((.bool true : Value) = .bool true)]) ⟨rfl,trivial⟩ ?_
      refine CfgL.done rfl ?_
      refine Cfg.ret rfl (rs := [.tmp 2]) rfl [.bool (decide ((if (o.t.t.size : Int) > (o.c.t.size : Int) then (o.t.t.size : Int) else (o.c.t.size : Int)) ≤ (300 : Int)))] ⟨kr,trivial⟩ (fun w1 hp => ?_)
      -- ['c1F','c2T','c3T','c4T'] (decide ((if (o.t.t.size : Int) > (o.c.t.size : Int) then (o
      exact ⟨(decide ((if (o.t.t.size : Int) > (o.c.t.size : Int) then (o.t.t.size : Int) else (o.c.t.size : Int)) ≤ (300 : Int))),(fun _ => by omega),rfl,_,hp.sub (List.nil_sublist _)⟩
     ·have c4k : (decide ((o.c.ps.length : Int) ≤ (9 : Int))) = false := (by simpa using c4)
      have c4q := (dF c4k)
      refine CfgL.known 33 (b := (decide ((o.c.ps.length : Int) ≤ (9 : Int)))) kr false c4k ?_
      refine Lp 12 [(2,false,none),(2,false,none),(2,false,none),(2,false,none),(2,false,none),(2,false,none),(2,false,none),(2,false,none),(2,false,none),(2,false,none)] (some [2]) (fun _ => [((.bool false : Value) ≠ .bool true),((.bool false : Value) ≠ .bool true),((.bool false : Value) ≠ .bool true),((.bool false : Value) ≠ .bool true),((.bool false : Value) ≠ .bool true),((.bool false : Value) ≠ .bool true),((.bool false : Value) ≠ .bool true),((.bool false : Value) ≠ .bool true),((.bool false : Value) ≠ .bool true),((.bool false : Value) ≠ .bool true)]) ⟨(by simp),(by simp),(by simp),(by simp),(by simp),(by simp),(by simp),(by simp),(by simp),(by simp),trivial⟩ ?_
      refine CfgL.done rfl ?_
      refine Cfg.ret rfl (rs := [.tmp 2]) rfl [.bool false] ⟨kr,trivial⟩ (fun w1 hp => ?_)
      -- ['c1F','c2T','c3T','c4F'] false
      exact ⟨false,(fun h9 => by cases h9),rfl,_,hp.sub (List.nil_sublist _)⟩
    ·have c3k : (decide (n ≤ (1000 : Int))) = false := (by simpa using c3)
     have c3q := (dF c3k)
     refine CfgL.known 26 (b := (decide (n ≤ (1000 : Int)))) kr false c3k ?_
     refine CfgL.pure 19 [(2,false,none),(2,false,none),(2,false,none),(2,false,none),(2,false,none),dZ,dZ,(2,false,none),(2,false,none),(2,false,none),(2,false,none),(2,false,none),(2,false,none),(2,false,none),(2,false,none),(2,false,none),(2,false,none)] (some [2]) (Γ' := [(2,[],.bool false)]) (nd := (fun _ => [((.bool false : Value) ≠ .bool true),((.bool false : Value) ≠ .bool true),((.bool false : Value) ≠ .bool true),((.bool false : Value) ≠ .bool true),((.bool false : Value) ≠ .bool true),((.bool false : Value) ≠ .bool true),((.bool false : Value) ≠ .bool true),((.bool false : Value) ≠ .bool true),((.bool false : Value) ≠ .bool true),((.bool false : Value) ≠ .bool true),((.bool false : Value) ≠ .bool true),((.bool false : Value) ≠ .bool true),((.bool false : Value) ≠ .bool true),((.bool false : Value) ≠ .bool true),((.bool false : Value) ≠ .bool true)])) kr (fun _ => kr) ⟨(by simp),(by simp),(by simp),(by simp),(by simp),(by simp),(by simp),(by simp),(by simp),(by simp),(by simp),(by simp),(by simp),(by simp),(by simp),trivial⟩ ?_
     refine CfgL.done rfl ?_
     refine Cfg.ret rfl (rs := [.tmp 2]) rfl [.bool false] ⟨kr,trivial⟩ (fun w1 hp => ?_)
     -- ['c1F','c2T','c3F'] false
     exact ⟨false,(fun h9 => by cases h9),rfl,_,hp.sub (List.nil_sublist _)⟩
   ·have c2k : (fewF o.m) = false := (by simpa using c2)
    have c2q : ((fewF o.m) = false) := c2k
    refine CfgL.known 22 (b := (fewF o.m)) kr false c2k ?_
    refine Lp 23 [(2,false,none),(2,false,none),dZ,dZ,(2,false,none),(2,false,none),(2,false,none),(2,false,none),(2,false,none),dZ,dZ,(2,false,none),(2,false,none),(2,false,none),(2,false,none),(2,false,none),(2,false,none),(2,false,none),(2,false,none),(2,false,none),(2,false,none)] (some [2]) (fun _ => [((.bool false : Value) ≠ .bool true),((.bool false : Value) ≠ .bool true),((.bool false : Value) ≠ .bool true),((.bool false : Value) ≠ .bool true),((.bool false : Value) ≠ .bool true),((.bool false : Value) ≠ .bool true),((.bool false : Value) ≠ .bool true),((.bool false : Value) ≠ .bool true),((.bool false : Value) ≠ .bool true),((.bool false : Value) ≠ .bool true),((.bool false : Value) ≠ .bool true),((.bool false : Value) ≠ .bool true),((.bool false : Value) ≠ .bool true),((.bool false : Value) ≠ .bool true),((.bool false : Value) ≠ .bool true),((.bool false : Value) ≠ .bool true),((.bool false : Value) ≠ .bool true)]) ⟨(by simp),(by simp),(by simp),(by simp),(by simp),(by simp),(by simp),(by simp),(by simp),(by simp),(by simp),(by simp),(by simp),(by simp),(by simp),(by simp),(by simp),trivial⟩ ?_
    refine CfgL.done rfl ?_
    refine Cfg.ret rfl (rs := [.tmp 2]) rfl [.bool false] ⟨kr,trivial⟩ (fun w1 hp => ?_)
    -- ['c1F','c2F'] false
    exact ⟨false,(fun h9 => by cases h9),rfl,_,hp.sub (List.nil_sublist _)⟩
end Go.Proofs.YtbeeelgfhfmgbaaGreatDoor
