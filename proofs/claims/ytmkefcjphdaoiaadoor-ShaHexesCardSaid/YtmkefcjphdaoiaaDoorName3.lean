/- sha.Parse: the digest that a text is. Condition: the text is no longer than any can be. -/
import Derived.Test.YtmkefcjphdaoiaaDoorNameRef
import Derived.Test.YtmkefcjphdaoiaaDoorName2
namespace Go.Proofs.YtmkefcjphdaoiaaDoor
open K
set_option linter.unusedVariables false

def bt (s : ByteArray) (k : Nat) : UInt8 := s.data.toList.getD k 0
theorem digV_bd (c : UInt8) : 0 ≤ digV c ∧ digV c ≤ 15 := by
  have := byte_lt c
  unfold digV
  split
  · omega
  · split <;> omega
/-- The number of a text's k-th digit. -/
def hv (s : ByteArray) (k : Nat) : Nat := (digV (bt s k)).toNat
theorem hv_lt (s : ByteArray) (k : Nat) : hv s k < 16 := by have := digV_bd (bt s k); unfold hv; omega
/-- What stands in byte i behind k digits. -/
def hpb (s : ByteArray) (k i : Nat) : Nat := if 2 * i + 2 ≤ k then 16 * hv s (2 * i) + hv s (2 * i + 1) else if 2 * i + 1 ≤ k then hv s (2 * i) else 0
theorem hpb_lt (s : ByteArray) (k i : Nat) : hpb s k i < 256 := by
  have h1 := hv_lt s (2 * i)
  have h2 := hv_lt s (2 * i + 1)
  unfold hpb
  split
  · omega
  · split <;> omega
def parRow (s : ByteArray) (k : Nat) : List UInt8 := (List.range 32).map fun i => UInt8.ofNat (hpb s k i)
theorem parRow_len (s : ByteArray) (k : Nat) : (parRow s k).length = 32 := by simp [parRow]
theorem parRow_zero (s : ByteArray) : parRow s 0 = List.replicate 32 0 := by
  refine List.eq_replicate_iff.2 ⟨parRow_len s 0, fun b hb => ?_⟩
  simp only [parRow, List.mem_map] at hb
  obtain ⟨i, _, rfl⟩ := hb
  simp [hpb]
theorem parRow_get (s : ByteArray) (k i : Nat) (h : i < 32) : ((parRow s k).getD i 0).toNat = hpb s k i := by
  have := hpb_lt s k i
  simp [parRow, h, List.getD_eq_getElem?_getD]
  omega
theorem or_add (a b : Nat) (hb : b < 16) : 16 * a ||| b = 16 * a + b := by
  have := Nat.two_pow_add_eq_or_of_lt (i := 4) (b := b) (by simpa using hb) a
  simpa using this.symm
theorem par_step (s : ByteArray) (k : Nat) (hk : k < 64) :
    (bv (parRow s k)).setIfInBounds (k / 2) (.int .u8 (((((((((parRow s k).getD (k / 2) 0).toNat : Int) * 16) % 256)).toNat ||| (digV (bt s k)).toNat : Nat) : Int))) = bv (parRow s (k + 1)) := by
  rw [parRow_get s k (k / 2) (by omega)]
  have hlt := hv_lt s k
  have e : (((((hpb s k (k / 2) : Nat) : Int) * 16) % 256).toNat ||| (digV (bt s k)).toNat) = hpb s (k + 1) (k / 2) := by
    show ((((hpb s k (k / 2) : Nat) : Int) * 16) % 256).toNat ||| hv s k = _
    rcases Nat.mod_two_eq_zero_or_one k with h | h
    · have e1 : hpb s k (k / 2) = 0 := by unfold hpb; rw [if_neg (by omega), if_neg (by omega)]
      have e2 : hpb s (k + 1) (k / 2) = hv s k := by unfold hpb; rw [if_neg (by omega), if_pos (by omega), show 2 * (k / 2) = k by omega]
      rw [e1, e2]; simp
    · have hlt2 := hv_lt s (k - 1)
      have e1 : hpb s k (k / 2) = hv s (k - 1) := by unfold hpb; rw [if_neg (by omega), if_pos (by omega), show 2 * (k / 2) = k - 1 by omega]
      have e2 : hpb s (k + 1) (k / 2) = 16 * hv s (k - 1) + hv s k := by unfold hpb; rw [if_pos (by omega), show 2 * (k / 2) = k - 1 by omega, show k - 1 + 1 = k by omega]
      rw [e1, e2, ← or_add _ _ hlt, show ((((hv s (k - 1) : Nat) : Int) * 16) % 256).toNat = 16 * hv s (k - 1) by omega]
  rw [e]
  have hp := hpb_lt s (k + 1) (k / 2)
  rw [bv_set (by omega) (by omega)]
  congr 1
  apply List.ext_getElem?
  intro i
  rw [List.getElem?_set]
  by_cases hi : k / 2 = i
  · subst hi
    simp [parRow, show k / 2 < 32 by omega]
  · rw [if_neg hi]
    by_cases h32 : i < 32
    · have : hpb s k i = hpb s (k + 1) i := by
        unfold hpb
        rcases Nat.lt_or_gt_of_ne hi with h1 | h1
        · rw [if_neg (show ¬ 2 * i + 2 ≤ k by omega), if_neg (show ¬ 2 * i + 1 ≤ k by omega), if_neg (show ¬ 2 * i + 2 ≤ k + 1 by omega), if_neg (show ¬ 2 * i + 1 ≤ k + 1 by omega)]
        · rw [if_pos (show 2 * i + 2 ≤ k by omega), if_pos (show 2 * i + 2 ≤ k + 1 by omega)]
      simp [parRow, h32, this]
    · simp [parRow, h32]

/-- The digest that a text is: whether it is one, and its bytes. -/
def parB (s : ByteArray) : Bool := decide (s.size = 64) && (List.range s.size).all fun k => digB (bt s k)
def parL (s : ByteArray) : List UInt8 := if parB s then parRow s 64 else List.replicate 32 0

theorem parL_len (s : ByteArray) : (parL s).length = 32 := by unfold parL; split <;> simp [parRow_len]
theorem zsize : (bv (List.replicate 32 0)).size = 32 := rfl
theorem prsize (s : ByteArray) (k : Nat) : (bv (parRow s k)).size = 32 := (bv_size _).trans (parRow_len s k)
theorem par_no {s : ByteArray} (h : parB s = false) : Ending.returned (.tuple #[.agg (bv (parL s)), .bool (parB s)]) = .returned (.tuple #[.agg (bv (List.replicate 32 0)), .bool false]) := by simp [parL, h]
theorem par_yes {s : ByteArray} (h : parB s = true) : Ending.returned (.tuple #[.agg (bv (parL s)), .bool (parB s)]) = .returned (.tuple #[.agg (bv (parRow s 64)), .bool true]) := by simp [parL, h]

set_option maxRecDepth 100000 in
theorem shaParse (s : ByteArray) (w : World) (hs : s.size ≤ maxLen) :
    Calls Tryd.prog 8 #[.string s] w fun e w' => e = .returned (.tuple #[.agg (bv (parL s)), .bool (parB s)]) ∧ Ext [] w w' := by
  unfold maxLen at hs
  refine enter (vs := [.string s]) [] [] [] Tryd.func8 rfl (by kernel_rfl) (HP.start w) ?_
  refine Cfg.begL rfl ?_
  refine CfgL.eff (o := _) rfl (by kernel_rfl) (by kernel_rfl) (Eff.alloc (z := (.agg (bv (List.replicate 32 0)))) rfl (by kernel_rfl)) ?_
  rintro r ⟨hr, nr⟩
  refine CfgL.pure 1 [] (some [0, 2]) (Γ' := [(2, [], .pointer (some ⟨r, 0, none⟩)), (0, [], .string s)]) (nd := (fun _ => [])) (by kernel_rfl) (fun _ => by kernel_rfl) trivial ?_
  refine CfgL.done rfl ?_
  refine Cfg.begL rfl ?_
  refine CfgL.eff (o := _) rfl (by kernel_rfl) (by kernel_rfl) (Eff.alloc (z := (.agg (bv (List.replicate 32 0)))) rfl (by kernel_rfl)) ?_
  rintro d ⟨hd, nd⟩
  refine CfgL.done rfl ?_
  refine Cfg.reg rfl [0, 2, 4, 10] [] (Γ' := [(10, [], .bool ((s.size : Int) != (64 : Int))), (4, [], .pointer (some ⟨d, 0, none⟩)), (2, [], .pointer (some ⟨r, 0, none⟩)), (0, [], .string s)]) (nd := (fun _ => [])) (fun _ => by kernel_rfl) trivial ?_
  refine Cfg.cond rfl (b := ((s.size : Int) != (64 : Int))) (by kernel_rfl) (fun c1r => ?_) (fun c1r => ?_)
  · have c1 : ((s.size : Int) ≠ (64 : Int)) := (bne_iff_ne.1 c1r)
    refine Cfg.begL rfl ?_
    refine CfgL.pure 1 [(0, false, some (.agg (bv (List.replicate 32 0))))] none (Γ' := [(11, [], .agg (bv (List.replicate 32 0))), (10, [], .bool ((s.size : Int) != (64 : Int))), (4, [], .pointer (some ⟨d, 0, none⟩)), (2, [], .pointer (some ⟨r, 0, none⟩)), (0, [], .string s)]) (nd := (fun S => [(∀ w1, S w1 → (Instr.build 25 #[]).run Tryd.prog w1 = .ok (.agg (bv (List.replicate 32 0))) w1)])) (by kernel_rfl) (fun _ => by kernel_rfl) ⟨(fun _ _ => by kernel_rfl), trivial⟩ ?_
    refine CfgL.eff (o := _) rfl (by kernel_rfl) (by kernel_rfl) (Eff.storeN (b := r) (off := 0) (vs := (bv (List.replicate 32 0))) (n := 32) rfl (by kernel_rfl) (by kernel_rfl) (by kernel_rfl) zsize (all_bv _) 1 (cs := (bv (List.replicate 32 0))) (e := 25) (by kernel_rfl) (by rw [zsize]; omega)) ?_
    rintro ⟨⟩ -
    refine CfgL.setO (O' := [(d, .cells (bv (List.replicate 32 0)) 25 (0, 0)), (r, .cells (bv (List.replicate 32 0)) 25 (0, 0))]) (congrArg (fun (x : Array Value) => ([(d, .cells (bv (List.replicate 32 0)) 25 (0, 0)), (r, .cells x 25 (0, 0))] : List (Nat × Obj))) (spl_all (zsize.trans zsize.symm))) ?_
    refine CfgL.pure 1 [] (some [2, 3]) (Γ' := [(3, [], .bool false), (2, [], .pointer (some ⟨r, 0, none⟩))]) (nd := (fun _ => [])) (by kernel_rfl) (fun _ => by kernel_rfl) trivial ?_
    refine CfgL.done rfl ?_
    refine Cfg.ret rfl (rs := [.cell 2 25, .tmp 3]) rfl [.agg (bv (List.replicate 32 0)), .bool false] ⟨⟨_, by kernel_rfl, fun w1 h => h.oload 1 rfl Tryd.underlying25 rfl (n := 32) (by kernel_rfl) zsize⟩, by kernel_rfl, trivial⟩ (fun w1 hp => ?_)
    exact ⟨(par_no (s := s) (by unfold parB; rw [decide_eq_false (by omega), Bool.false_and])).symm ▸ rfl, hp.ext⟩
  · have c1 : ((s.size : Int) = (64 : Int)) := (bne_eq_false_iff_eq.1 c1r)
    refine Cfg.reg rfl [0, 2, 4, 13, 14] [] (Γ' := [(14, [], .int .i64 0), (13, [], .int .i64 (s.size : Int)), (4, [], .pointer (some ⟨d, 0, none⟩)), (2, [], .pointer (some ⟨r, 0, none⟩)), (0, [], .string s)]) (nd := (fun _ => [])) (fun _ => by kernel_rfl) trivial ?_
    refine Cfg.loop rfl (ι := Nat) (fun (k : Nat) => [(14, [], .int .i64 (k : Int)), (13, [], .int .i64 (s.size : Int)), (4, [], .pointer (some ⟨d, 0, none⟩)), (2, [], .pointer (some ⟨r, 0, none⟩)), (0, [], .string s)]) (fun (k : Nat) => [(d, .cells (bv (parRow s k)) 25 (0, 0)), (r, .cells (bv (List.replicate 32 0)) 25 (0, 0))]) (fun (k : Nat) => (k ≤ 64) ∧ (∀ j, j < k → digB (bt s j) = true)) (fun (k : Nat) => 64 - k) 0 ?_ (Conv.mk (by kernel_rfl)) (by rw [parRow_zero]; exact List.Sublist.refl _) ?_
    · exact ⟨Nat.zero_le _, fun j h => absurd h (Nat.not_lt_zero j)⟩
    · rintro k ⟨hk, hall⟩
      refine Cfg.reg rfl [0, 2, 4, 13, 14, 15] [] (Γ' := [(15, [], .bool (decide ((k : Int) < (s.size : Int)))), (14, [], .int .i64 (k : Int)), (13, [], .int .i64 (s.size : Int)), (4, [], .pointer (some ⟨d, 0, none⟩)), (2, [], .pointer (some ⟨r, 0, none⟩)), (0, [], .string s)]) (nd := (fun _ => [])) (fun _ => by kernel_rfl) trivial ?_
      refine Cfg.cond rfl (b := (decide ((k : Int) < (s.size : Int)))) (by kernel_rfl) (fun c2r => ?_) (fun c2r => ?_)
      · have c2 : ((k : Int) < (s.size : Int)) := (of_decide_eq_true c2r)
        refine Cfg.reg rfl [0, 2, 4, 5, 13, 14] [] (Γ' := [(5, [], .int .i64 (k : Int)), (14, [], .int .i64 (k : Int)), (13, [], .int .i64 (s.size : Int)), (4, [], .pointer (some ⟨d, 0, none⟩)), (2, [], .pointer (some ⟨r, 0, none⟩)), (0, [], .string s)]) (nd := (fun _ => [])) (fun _ => by kernel_rfl) trivial ?_
        refine Cfg.begL rfl ?_
        refine CfgL.pure 3 [] none (Γ' := [(20, [], .int .u8 (sbyte s (k : Int))), (19, [], .int .i64 (k : Int)), (18, [], .string s), (5, [], .int .i64 (k : Int)), (14, [], .int .i64 (k : Int)), (13, [], .int .i64 (s.size : Int)), (4, [], .pointer (some ⟨d, 0, none⟩)), (2, [], .pointer (some ⟨r, 0, none⟩)), (0, [], .string s)]) (nd := (fun _ => [(0 ≤ (k : Int) ∧ (k : Int) < (s.size : Int))])) (by kernel_rfl) (fun _ => by kernel_rfl) ⟨(by omega), trivial⟩ ?_
        refine CfgL.eff (o := _) rfl (by kernel_rfl) (by kernel_rfl) (Eff.callA (vs := [.int .u8 (sbyte s (k : Int))]) (.tuple #[.int .u8 (digV (bt s k)), .bool (digB (bt s k))]) rfl Tryd.func18 rfl rfl (by kernel_rfl) (fun w1 _ => shaDigit (bt s k) w1)) ?_
        rintro ⟨⟩ -
        refine CfgL.pure 5 [] (some [0, 2, 4, 5, 6, 7, 13, 14]) (Γ' := [(7, [], .bool (digB (bt s k))), (6, [], .int .u8 (digV (bt s k))), (5, [], .int .i64 (k : Int)), (14, [], .int .i64 (k : Int)), (13, [], .int .i64 (s.size : Int)), (4, [], .pointer (some ⟨d, 0, none⟩)), (2, [], .pointer (some ⟨r, 0, none⟩)), (0, [], .string s)]) (nd := (fun _ => [])) (by kernel_rfl) (fun _ => by kernel_rfl) trivial ?_
        refine CfgL.done rfl ?_
        refine Cfg.reg rfl [0, 2, 4, 5, 6, 13, 14, 25] [] (Γ' := [(25, [], .bool (!(digB (bt s k)))), (6, [], .int .u8 (digV (bt s k))), (5, [], .int .i64 (k : Int)), (14, [], .int .i64 (k : Int)), (13, [], .int .i64 (s.size : Int)), (4, [], .pointer (some ⟨d, 0, none⟩)), (2, [], .pointer (some ⟨r, 0, none⟩)), (0, [], .string s)]) (nd := (fun _ => [])) (fun _ => by kernel_rfl) trivial ?_
        refine Cfg.cond rfl (b := (!(digB (bt s k)))) (by kernel_rfl) (fun c3r => ?_) (fun c3r => ?_)
        · have c3 : ((digB (bt s k)) = false) := (notT c3r)
          refine Cfg.begL rfl ?_
          refine CfgL.pure 1 [(0, false, some (.agg (bv (List.replicate 32 0))))] none (Γ' := [(26, [], .agg (bv (List.replicate 32 0))), (25, [], .bool (!(digB (bt s k)))), (6, [], .int .u8 (digV (bt s k))), (5, [], .int .i64 (k : Int)), (14, [], .int .i64 (k : Int)), (13, [], .int .i64 (s.size : Int)), (4, [], .pointer (some ⟨d, 0, none⟩)), (2, [], .pointer (some ⟨r, 0, none⟩)), (0, [], .string s)]) (nd := (fun S => [(∀ w1, S w1 → (Instr.build 25 #[]).run Tryd.prog w1 = .ok (.agg (bv (List.replicate 32 0))) w1)])) (by kernel_rfl) (fun _ => by kernel_rfl) ⟨(fun _ _ => by kernel_rfl), trivial⟩ ?_
          refine CfgL.eff (o := _) rfl (by kernel_rfl) (by kernel_rfl) (Eff.storeN (b := r) (off := 0) (vs := (bv (List.replicate 32 0))) (n := 32) rfl (by kernel_rfl) (by kernel_rfl) (by kernel_rfl) zsize (all_bv _) 1 (cs := (bv (List.replicate 32 0))) (e := 25) (by kernel_rfl) (by rw [zsize]; omega)) ?_
          rintro ⟨⟩ -
          refine CfgL.setO (O' := [(d, .cells (bv (parRow s k)) 25 (0, 0)), (r, .cells (bv (List.replicate 32 0)) 25 (0, 0))]) (congrArg (fun (x : Array Value) => ([(d, .cells (bv (parRow s k)) 25 (0, 0)), (r, .cells x 25 (0, 0))] : List (Nat × Obj))) (spl_all (zsize.trans zsize.symm))) ?_
          refine CfgL.pure 1 [] (some [2, 3]) (Γ' := [(3, [], .bool false), (2, [], .pointer (some ⟨r, 0, none⟩))]) (nd := (fun _ => [])) (by kernel_rfl) (fun _ => by kernel_rfl) trivial ?_
          refine CfgL.done rfl ?_
          refine Cfg.ret rfl (rs := [.cell 2 25, .tmp 3]) rfl [.agg (bv (List.replicate 32 0)), .bool false] ⟨⟨_, by kernel_rfl, fun w1 h => h.oload 1 rfl Tryd.underlying25 rfl (n := 32) (by kernel_rfl) zsize⟩, by kernel_rfl, trivial⟩ (fun w1 hp => ?_)
          exact ⟨(par_no (s := s) (by unfold parB; rw [all_no (by omega) c3, Bool.and_false])).symm ▸ rfl, hp.ext⟩
        · have c3 : ((digB (bt s k)) = true) := (notF c3r)
          refine Cfg.begL rfl ?_
          refine CfgL.pure 10 [(0, false, none), (0, false, none), (0, false, none), (0, false, none), (0, false, none), (0, false, some (.int .u8 ((((parRow s k)).getD ((k / 2)) 0).toNat : Int)))] none (Γ' := [(36, [], .pointer (some ⟨d, (k / 2), none⟩)), (35, [], .int .u8 (((((((((parRow s k)).getD ((k / 2)) 0).toNat : Int) * 16) % 256)).toNat ||| ((digV (bt s k))).toNat : Nat) : Int)), (34, [], .int .u8 (digV (bt s k))), (33, [], .int .u8 ((((((parRow s k)).getD ((k / 2)) 0).toNat : Int) * 16) % 256)), (32, [], .int .u8 ((((parRow s k)).getD ((k / 2)) 0).toNat : Int)), (31, [], .pointer (some ⟨d, (k / 2), none⟩)), (30, [], .int .i64 ((k : Int) / 2)), (29, [], .int .i64 (k : Int)), (28, [], .int .i64 ((k : Int) / 2)), (27, [], .int .i64 (k : Int)), (25, [], .bool (!(digB (bt s k)))), (6, [], .int .u8 (digV (bt s k))), (5, [], .int .i64 (k : Int)), (14, [], .int .i64 (k : Int)), (13, [], .int .i64 (s.size : Int)), (4, [], .pointer (some ⟨d, 0, none⟩)), (2, [], .pointer (some ⟨r, 0, none⟩)), (0, [], .string s)]) (nd := (fun S => [(0 ≤ (k : Int) ∧ (k : Int) ≤ 9223372036854775807 ∧ 0 < (2 : Int)), (0 ≤ (k : Int) ∧ (k : Int) ≤ 9223372036854775807 ∧ 0 < (2 : Int)), (0 ≤ ((k : Int) / 2) ∧ ((k : Int) / 2) < (32 : Int)), (∀ w1, S w1 → w1.cell? ⟨d, (k / 2), none⟩ = some (.int .u8 ((((parRow s k)).getD ((k / 2)) 0).toNat : Int))), (0 ≤ (4 : Int) ∧ 4 ≤ 8), ((0 ≤ ((((((parRow s k)).getD ((k / 2)) 0).toNat : Int) * 16) % 256) ∧ ((((((parRow s k)).getD ((k / 2)) 0).toNat : Int) * 16) % 256) ≤ 255) ∧ 0 ≤ (digV (bt s k)) ∧ (digV (bt s k)) ≤ 255), (0 ≤ ((k : Int) / 2) ∧ ((k : Int) / 2) < (32 : Int))])) (by kernel_rfl) (fun _ => by kernel_rfl) ⟨(by omega), (by omega), (by omega), (fun w1 h => h.ocell 0 rfl (bv_get (n := 32) (parRow_len s _) (by omega))), (by omega), (by have := digV_bd (bt s k); have := byte_lt ((parRow s k).getD (k / 2) 0); omega), (by omega), trivial⟩ ?_
          refine CfgL.eff (o := _) rfl (by kernel_rfl) (by kernel_rfl) (Eff.store1 (b := d) (off := (k / 2)) (v := .int .u8 (((((((((parRow s k)).getD ((k / 2)) 0).toNat : Int) * 16) % 256)).toNat ||| ((digV (bt s k))).toNat : Nat) : Int)) rfl (by kernel_rfl) (by kernel_rfl) rfl (by kernel_rfl) 0 (cs := (bv (parRow s k))) (e := 25) (by kernel_rfl) (by rw [prsize]; omega)) ?_
          rintro ⟨⟩ -
          refine CfgL.done rfl ?_
          refine Conv.cfg (Γ' := [(14, [], .int .i64 (k : Int)), (13, [], .int .i64 (s.size : Int)), (4, [], .pointer (some ⟨d, 0, none⟩)), (2, [], .pointer (some ⟨r, 0, none⟩)), (0, [], .string s)]) (Conv.mk (by kernel_rfl)) ?_
          refine Cfg.reg rfl [0, 2, 4, 13, 14] [] (Γ' := [(14, [], .int .i64 ((k : Int) + 1)), (13, [], .int .i64 (s.size : Int)), (4, [], .pointer (some ⟨d, 0, none⟩)), (2, [], .pointer (some ⟨r, 0, none⟩)), (0, [], .string s)]) (nd := (fun _ => [((-9223372036854775808 : Int) ≤ ((k : Int) + 1) ∧ ((k : Int) + 1) ≤ 9223372036854775807)])) (fun _ => by kernel_rfl) ⟨(by omega), trivial⟩ ?_
          refine Cfg.setO (O' := [(d, .cells (bv (parRow s (k + 1))) 25 (0, 0)), (r, .cells (bv (List.replicate 32 0)) 25 (0, 0))]) (congrArg (fun (x : Array Value) => ([(d, .cells x 25 (0, 0)), (r, .cells (bv (List.replicate 32 0)) 25 (0, 0))] : List (Nat × Obj))) (par_step s k (by omega))) ?_
          refine Cfg.again rfl (k + 1) ⟨by omega, upto_succ hall c3⟩ (by omega) (Conv.mk (by kernel_rfl)) (.cons_cons _ (.cons_cons _ .slnil))
      · have c2 : (¬ ((k : Int) < (s.size : Int))) := (of_decide_eq_false c2r)
        refine Cfg.begL rfl ?_
        refine CfgL.pure 1 [(0, false, some (.agg (bv (parRow s k))))] none (Γ' := [(38, [], .agg (bv (parRow s k))), (15, [], .bool (decide ((k : Int) < (s.size : Int)))), (14, [], .int .i64 (k : Int)), (13, [], .int .i64 (s.size : Int)), (4, [], .pointer (some ⟨d, 0, none⟩)), (2, [], .pointer (some ⟨r, 0, none⟩)), (0, [], .string s)]) (nd := (fun S => [(∀ w1, S w1 → (loadVar 25 ⟨d, 0, none⟩).run Tryd.prog w1 = .ok (.agg (bv (parRow s k))) w1)])) (by kernel_rfl) (fun _ => by kernel_rfl) ⟨(fun w1 h => h.oload 0 rfl Tryd.underlying25 rfl (n := 32) (by kernel_rfl) ((bv_size _).trans (parRow_len s _))), trivial⟩ ?_
        refine CfgL.eff (o := _) rfl (by kernel_rfl) (by kernel_rfl) (Eff.storeN (b := r) (off := 0) (vs := (bv (parRow s k))) (n := 32) rfl (by kernel_rfl) (by kernel_rfl) (by kernel_rfl) (prsize s k) (all_bv _) 1 (cs := (bv (List.replicate 32 0))) (e := 25) (by kernel_rfl) (by rw [zsize]; omega)) ?_
        rintro ⟨⟩ -
        refine CfgL.setO (O' := [(d, .cells (bv (parRow s k)) 25 (0, 0)), (r, .cells (bv (parRow s k)) 25 (0, 0))]) (congrArg (fun (x : Array Value) => ([(d, .cells (bv (parRow s k)) 25 (0, 0)), (r, .cells x 25 (0, 0))] : List (Nat × Obj))) (spl_all ((prsize s k).trans zsize.symm))) ?_
        refine CfgL.pure 1 [] (some [2, 3]) (Γ' := [(3, [], .bool true), (2, [], .pointer (some ⟨r, 0, none⟩))]) (nd := (fun _ => [])) (by kernel_rfl) (fun _ => by kernel_rfl) trivial ?_
        refine CfgL.done rfl ?_
        refine Cfg.ret rfl (rs := [.cell 2 25, .tmp 3]) rfl [.agg (bv (parRow s k)), .bool true] ⟨⟨_, by kernel_rfl, fun w1 h => h.oload 1 rfl Tryd.underlying25 rfl (n := 32) (by kernel_rfl) (prsize s k)⟩, by kernel_rfl, trivial⟩ (fun w1 hp => ?_)
        have hk2 : k = 64 := by omega
        subst hk2
        exact ⟨(par_yes (s := s) (by unfold parB; rw [decide_eq_true (by omega), all_yes (by rw [show s.size = 64 by omega]; exact hall)]; rfl)).symm ▸ rfl, hp.ext⟩

end Go.Proofs.YtmkefcjphdaoiaaDoor
