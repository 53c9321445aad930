/- The reference: Parse, File. Conditions: a digest is 32 bytes, a text no longer than any can be. -/
import Derived.Test.YtaggpgnijnjedaaName5
namespace Go.Proofs.Ytaggpgnijnjedaa
open K
set_option linter.unusedVariables false

theorem bt_ext (s : ByteArray) (k : Nat) (h : k + 2 < s.size) : bt (s.extract 2 s.size) k = bt s (k + 2) := by
  have h1 : (s.extract 2 s.size).data.toList = s.data.toList.drop 2 := by
    rw [ByteArray.data_extract, Array.toList_extract, List.extract_eq_take_drop]
    exact List.take_of_length_le (by rw [List.length_drop]; exact Nat.le_refl _)
  unfold bt
  rw [h1, List.getD_eq_getElem?_getD, List.getD_eq_getElem?_getD, List.getElem?_drop, Nat.add_comm]

/-- Behind i bytes. -/
theorem row_step (t : ByteArray) {i : Nat} (hi : i < 32) (h1 : digB (bt t (2 * i)) = true) (h2 : digB (bt t (2 * i + 1)) = true) :
    (bv (parRow t (2 * i))).setIfInBounds i (.int .u8 (((16 * digV (bt t (2 * i))) % 256 + digV (bt t (2 * i + 1))) % 256)) = bv (parRow t (2 * (i + 1))) := by
  have b1 := digV_bd (bt t (2 * i))
  have b2 := digV_bd (bt t (2 * i + 1))
  rw [bv_set (by omega) (by omega)]
  congr 1
  apply List.ext_getElem?
  intro j
  rw [List.getElem?_set]
  by_cases hj : i = j
  · subst hj
    rw [if_pos rfl, if_pos (by rw [parRow_len]; exact hi)]
    have e : pb t (2 * (i + 1)) i = 16 * hv t (2 * i) + hv t (2 * i + 1) := by unfold pb; rw [if_pos (by omega)]
    simp only [parRow, List.getElem?_map, List.getElem?_range hi, Option.map_some, e]
    congr 2
    unfold hv
    omega
  · rw [if_neg hj]
    by_cases h32 : j < 32
    · have : pb t (2 * i) j = pb t (2 * (i + 1)) j := by
        unfold pb
        rcases Nat.lt_or_gt_of_ne hj with hh | hh
        · rw [if_neg (show ¬ 2 * j + 2 ≤ 2 * i by omega), if_neg (show ¬ 2 * j + 1 ≤ 2 * i by omega), if_neg (show ¬ 2 * j + 2 ≤ 2 * (i + 1) by omega), if_neg (show ¬ 2 * j + 1 ≤ 2 * (i + 1) by omega)]
        · rw [if_pos (show 2 * j + 2 ≤ 2 * i by omega), if_pos (show 2 * j + 2 ≤ 2 * (i + 1) by omega)]
      simp [parRow, h32, this]
    · simp [parRow, h32]

theorem nib_hi {c : UInt8} (h : nib c ≤ 15) : digB c = true := by rw [nib_iff]; exact decide_eq_true h
theorem nib_lo {c : UInt8} (h : 15 < nib c) : digB c = false := by rw [nib_iff]; exact decide_eq_false (by omega)
theorem up2 {f : Nat → Bool} {i : Nat} (h : ∀ j, j < 2 * i → f j = true) (h1 : f (2 * i) = true) (h2 : f (2 * i + 1) = true) : ∀ j, j < 2 * (i + 1) → f j = true := by
  intro j hj
  rcases Nat.lt_or_ge j (2 * i) with hh | hh
  · exact h j hh
  · rcases Nat.eq_or_lt_of_le hh with hh | hh
    · rw [← hh]; exact h1
    · rw [show j = 2 * i + 1 by omega]; exact h2
theorem ext_sz (s : ByteArray) : (s.extract 2 s.size).size = s.size - 2 := by rw [ByteArray.size_extract]; omega

set_option maxRecDepth 100000 in
theorem refParse (s : ByteArray) (w : World) (hs : s.size ≤ maxLen) :
    Calls Try.prog 14 #[.string s] w fun e w' => e = .returned (npV s) ∧ Ext [] w w' := by
  have hm := hs
  unfold maxLen at hs
  refine enter (vs := [.string s]) [] [] [] Try.func14 rfl (by kernel_rfl) (HP.start w) ?_
  refine Cfg.begL rfl ?_
  refine CfgL.pure 1 [] none (Γ' := [(2, [], .int .u8 0), (0, [], .string s)]) (nd := (fun _ => [])) (by kernel_rfl) (fun _ => by kernel_rfl) trivial ?_
  refine CfgL.eff (o := _) rfl (by kernel_rfl) (by kernel_rfl) (Eff.alloc (z := (.agg (bv (List.replicate 32 0)))) rfl (by kernel_rfl)) ?_
  rintro r ⟨hr, nr⟩
  refine CfgL.pure 1 [] (some [0, 3]) (Γ' := [(3, [], .pointer (some ⟨r, 0, none⟩)), (0, [], .string s)]) (nd := (fun _ => [])) (by kernel_rfl) (fun _ => by kernel_rfl) trivial ?_
  refine CfgL.done rfl ?_
  refine Cfg.begL rfl ?_
  refine CfgL.eff (o := _) rfl (by kernel_rfl) (by kernel_rfl) (Eff.alloc (z := (.agg (bv (List.replicate 32 0)))) rfl (by kernel_rfl)) ?_
  rintro d ⟨hd, nd⟩
  refine CfgL.done rfl ?_
  refine Cfg.reg rfl [0, 3, 5, 26] [] (Γ' := [(26, [], .bool ((((s.size : Int) != (66 : Int)) || ((sbyte s (1 : Int)) != (46 : Int))) || (((sbyte s (0 : Int)) != (111 : Int)) && ((sbyte s (0 : Int)) != (112 : Int))))), (5, [], .pointer (some ⟨d, 0, none⟩)), (3, [], .pointer (some ⟨r, 0, none⟩)), (0, [], .string s)]) (nd := (fun _ => [((.bool ((s.size : Int) != (66 : Int)) : Value) = .bool false → (0 ≤ (1 : Int) ∧ (1 : Int) < (s.size : Int))), ((.bool (((s.size : Int) != (66 : Int)) || ((sbyte s (1 : Int)) != (46 : Int))) : Value) = .bool false → (0 ≤ (0 : Int) ∧ (0 : Int) < (s.size : Int))), ((.bool ((sbyte s (0 : Int)) != (111 : Int)) : Value) = .bool true → ((.bool (((s.size : Int) != (66 : Int)) || ((sbyte s (1 : Int)) != (46 : Int))) : Value) = .bool false → (0 ≤ (0 : Int) ∧ (0 : Int) < (s.size : Int))))])) (fun _ => by kernel_rfl) ⟨(fun g0 => have q0 : ((s.size : Int) = (66 : Int)) := (bne_eq_false_iff_eq.1 (boolV g0)); (by omega)), (fun g0 => have q0 : (((s.size : Int) = (66 : Int)) ∧ ((sbyte s (1 : Int)) = (46 : Int))) := ⟨(bne_eq_false_iff_eq.1 (orF1 (boolV g0))), (bne_eq_false_iff_eq.1 (orF2 (boolV g0)))⟩; (by omega)), (fun g0 g1 => have q0 : ((sbyte s (0 : Int)) ≠ (111 : Int)) := (bne_iff_ne.1 (boolV g0)); have q1 : (((s.size : Int) = (66 : Int)) ∧ ((sbyte s (1 : Int)) = (46 : Int))) := ⟨(bne_eq_false_iff_eq.1 (orF1 (boolV g1))), (bne_eq_false_iff_eq.1 (orF2 (boolV g1)))⟩; (by omega)), trivial⟩ ?_
  refine Cfg.cond rfl (b := ((((s.size : Int) != (66 : Int)) || ((sbyte s (1 : Int)) != (46 : Int))) || (((sbyte s (0 : Int)) != (111 : Int)) && ((sbyte s (0 : Int)) != (112 : Int))))) (by kernel_rfl) (fun c1r => ?_) (fun c1r => ?_)
  · have c1 : ((((s.size : Int) ≠ (66 : Int)) ∨ ((sbyte s (1 : Int)) ≠ (46 : Int))) ∨ (((sbyte s (0 : Int)) ≠ (111 : Int)) ∧ ((sbyte s (0 : Int)) ≠ (112 : Int)))) := ((orT c1r).elim (fun h => Or.inl ((orT h).elim (fun h => Or.inl (bne_iff_ne.1 h)) (fun h => Or.inr (bne_iff_ne.1 h)))) (fun h => Or.inr ⟨(bne_iff_ne.1 (andT1 h)), (bne_iff_ne.1 (andT2 h))⟩))
    refine Cfg.begA rfl (by kernel_rfl) [(d, .cells (bv (List.replicate 32 0)) 25 (0, 0))] ?_
    refine CfgA.pure [0, 1] [(0, false, some (.agg (bv (List.replicate 32 0))))] none (l' := #[true, true, false, false]) (by kernel_rfl) (by kernel_rfl) (.cons_cons _ (.cons _ .slnil)) 2 rfl (Γ' := [(2, [], .int .u8 0), (27, [], .agg (bv (List.replicate 32 0))), (26, [], .bool ((((s.size : Int) != (66 : Int)) || ((sbyte s (1 : Int)) != (46 : Int))) || (((sbyte s (0 : Int)) != (111 : Int)) && ((sbyte s (0 : Int)) != (112 : Int))))), (5, [], .pointer (some ⟨d, 0, none⟩)), (3, [], .pointer (some ⟨r, 0, none⟩)), (0, [], .string s)]) (nd := (fun S => [(∀ w1, S w1 → (loadVar 25 ⟨d, 0, none⟩).run Try.prog w1 = .ok (.agg (bv (List.replicate 32 0))) w1)])) (fun _ => by kernel_rfl) ⟨(fun w1 h => h.oload 0 rfl Try.underlying25 rfl (n := 32) (by kernel_rfl) zsize), trivial⟩ ?_
    refine CfgA.eff 2 (o := _) rfl (by kernel_rfl) (fuel' := 1) rfl (by kernel_rfl) (by kernel_rfl) (Eff.storeN (b := r) (off := 0) (vs := (bv (List.replicate 32 0))) (n := 32) rfl (by kernel_rfl) (by kernel_rfl) (by kernel_rfl) zsize (all_bv _) 1 (cs := (bv (List.replicate 32 0))) (e := 25) (by kernel_rfl) (by rw [zsize]; omega)) (fun _ _ => (.cons_cons _ (.cons _ .slnil))) ?_
    rintro ⟨⟩ -
    refine CfgA.setO (O' := [(d, .cells (bv (List.replicate 32 0)) 25 (0, 0)), (r, .cells (bv (List.replicate 32 0)) 25 (0, 0))]) (congrArg (fun (x : Array Value) => ([(d, .cells (bv (List.replicate 32 0)) 25 (0, 0)), (r, .cells x 25 (0, 0))] : List (Nat × Obj))) (spl_all (zsize.trans zsize.symm))) ?_
    refine CfgA.pure [3] [] (some [2, 3, 4]) (l' := #[true, true, true, true]) (by kernel_rfl) (by kernel_rfl) (.cons_cons _ (.cons _ .slnil)) 0 rfl (Γ' := [(4, [], .bool false), (2, [], .int .u8 0), (3, [], .pointer (some ⟨r, 0, none⟩))]) (nd := (fun _ => [])) (fun _ => by kernel_rfl) trivial ?_
    refine CfgA.done (by kernel_rfl) ?_
    refine Cfg.ret rfl (rs := [.tmp 2, .cell 3 25, .tmp 4]) rfl [.int .u8 0, .agg (bv (List.replicate 32 0)), .bool false] ⟨by kernel_rfl, ⟨_, by kernel_rfl, fun w1 h => h.oload 1 rfl Try.underlying25 rfl (n := 32) (by kernel_rfl) zsize⟩, by kernel_rfl, trivial⟩ (fun w1 hp => ?_)
    exact ⟨(np_no (s := s) (by
      unfold npB
      by_cases h66 : s.size = 66
      · rw [show hdB s = false by simp [hdB]; omega, Bool.false_and]
      · rw [show parB (s.extract 2 s.size) = false by unfold parB; rw [decide_eq_false (by rw [ext_sz]; omega), Bool.false_and], Bool.and_false])).symm ▸ rfl, hp.ext⟩
  · have c1 : ((((s.size : Int) = (66 : Int)) ∧ ((sbyte s (1 : Int)) = (46 : Int))) ∧ (((sbyte s (0 : Int)) = (111 : Int)) ∨ ((sbyte s (0 : Int)) = (112 : Int)))) := ⟨⟨(bne_eq_false_iff_eq.1 (orF1 (orF1 c1r))), (bne_eq_false_iff_eq.1 (orF2 (orF1 c1r)))⟩, ((andF (orF2 c1r)).elim (fun h => Or.inl (bne_eq_false_iff_eq.1 h)) (fun h => Or.inr (bne_eq_false_iff_eq.1 h)))⟩
    refine Cfg.reg rfl [0, 3, 5, 6] [] (Γ' := [(6, [], .int .i64 0), (5, [], .pointer (some ⟨d, 0, none⟩)), (3, [], .pointer (some ⟨r, 0, none⟩)), (0, [], .string s)]) (nd := (fun _ => [])) (fun _ => by kernel_rfl) trivial ?_
    refine Cfg.loop rfl (ι := Nat) (fun (i : Nat) => [(6, [], .int .i64 (i : Int)), (5, [], .pointer (some ⟨d, 0, none⟩)), (3, [], .pointer (some ⟨r, 0, none⟩)), (0, [], .string s)]) (fun (i : Nat) => [(d, .cells (bv (parRow (s.extract 2 s.size) (2 * i))) 25 (0, 0)), (r, .cells (bv (List.replicate 32 0)) 25 (0, 0))]) (fun (i : Nat) => (i ≤ 32) ∧ (∀ j, j < 2 * i → digB (bt (s.extract 2 s.size) j) = true)) (fun (i : Nat) => 32 - i) 0 ?_ (Conv.mk (by kernel_rfl)) (by rw [Nat.mul_zero, parRow_zero]; exact List.Sublist.refl _) ?_
    · exact ⟨Nat.zero_le _, fun j h => absurd h (Nat.not_lt_zero j)⟩
    · rintro i ⟨hi, hall⟩
      have eb1 : i < 32 → bt (s.extract 2 s.size) (2 * i) = bt s (2 + 2 * i) := fun h => by rw [bt_ext s (2 * i) (by omega), Nat.add_comm]
      have eb2 : i < 32 → bt (s.extract 2 s.size) (2 * i + 1) = bt s (3 + 2 * i) := fun h => by rw [bt_ext s (2 * i + 1) (by omega), show 2 * i + 1 + 2 = 3 + 2 * i by omega]
      refine Cfg.reg rfl [0, 3, 5, 6, 29] [] (Γ' := [(29, [], .bool (decide ((i : Int) < (32 : Int)))), (6, [], .int .i64 (i : Int)), (5, [], .pointer (some ⟨d, 0, none⟩)), (3, [], .pointer (some ⟨r, 0, none⟩)), (0, [], .string s)]) (nd := (fun _ => [])) (fun _ => by kernel_rfl) trivial ?_
      refine Cfg.cond rfl (b := (decide ((i : Int) < (32 : Int)))) (by kernel_rfl) (fun c2r => ?_) (fun c2r => ?_)
      · have c2 : ((i : Int) < (32 : Int)) := (of_decide_eq_true c2r)
        refine Cfg.begA rfl (by kernel_rfl) [(d, .cells (bv (parRow (s.extract 2 s.size) (2 * i))) 25 (0, 0)), (r, .cells (bv (List.replicate 32 0)) 25 (0, 0))] ?_
        refine CfgA.pure [0, 1, 2, 3, 4, 6, 7, 8, 9, 10] [] none (l' := #[true, true, true, true, true, false, true, true, true, true, true, false, false, false]) (by kernel_rfl) (by kernel_rfl) (.cons_cons _ (.cons_cons _ .slnil)) 4 rfl (Γ' := [(42, [], .int .u8 (sbyte s (3 + (2 * (i : Int))))), (41, [], .int .i64 (3 + (2 * (i : Int)))), (40, [], .int .i64 (2 * (i : Int))), (39, [], .int .i64 (i : Int)), (38, [], .string s), (36, [], .int .u8 (sbyte s (2 + (2 * (i : Int))))), (35, [], .int .i64 (2 + (2 * (i : Int)))), (34, [], .int .i64 (2 * (i : Int))), (33, [], .int .i64 (i : Int)), (32, [], .string s), (29, [], .bool (decide ((i : Int) < (32 : Int)))), (6, [], .int .i64 (i : Int)), (5, [], .pointer (some ⟨d, 0, none⟩)), (3, [], .pointer (some ⟨r, 0, none⟩)), (0, [], .string s)]) (nd := (fun _ => [((-9223372036854775808 : Int) ≤ (2 * (i : Int)) ∧ (2 * (i : Int)) ≤ 9223372036854775807), ((-9223372036854775808 : Int) ≤ (2 + (2 * (i : Int))) ∧ (2 + (2 * (i : Int))) ≤ 9223372036854775807), (0 ≤ (2 + (2 * (i : Int))) ∧ (2 + (2 * (i : Int))) < (s.size : Int)), ((-9223372036854775808 : Int) ≤ (2 * (i : Int)) ∧ (2 * (i : Int)) ≤ 9223372036854775807), ((-9223372036854775808 : Int) ≤ (3 + (2 * (i : Int))) ∧ (3 + (2 * (i : Int))) ≤ 9223372036854775807), (0 ≤ (3 + (2 * (i : Int))) ∧ (3 + (2 * (i : Int))) < (s.size : Int))])) (fun _ => by kernel_rfl) ⟨(by omega), (by omega), (by omega), (by omega), (by omega), (by omega), trivial⟩ ?_
        refine CfgA.eff 5 (o := _) rfl (by kernel_rfl) (fuel' := 3) rfl (by kernel_rfl) (by kernel_rfl) (Eff.callA (vs := [.int .u8 (sbyte s (2 + (2 * (i : Int))))]) (.int .u8 (nib (bt s (2 + 2 * i)))) rfl Try.func19 rfl rfl (by kernel_rfl) (fun w1 _ => refNibble (bt s (2 + 2 * i)) w1)) (fun _ _ => (.cons_cons _ (.cons_cons _ .slnil))) ?_
        rintro ⟨⟩ -
        refine CfgA.eff 11 (o := _) rfl (by kernel_rfl) (fuel' := 2) rfl (by kernel_rfl) (by kernel_rfl) (Eff.callA (vs := [.int .u8 (sbyte s (3 + (2 * (i : Int))))]) (.int .u8 (nib (bt s (3 + 2 * i)))) rfl Try.func19 rfl rfl (by kernel_rfl) (fun w1 _ => refNibble (bt s (3 + 2 * i)) w1)) (fun _ _ => (.cons_cons _ (.cons_cons _ .slnil))) ?_
        rintro ⟨⟩ -
        refine CfgA.pure [12, 13] [] (some [0, 3, 5, 6, 7, 8]) (l' := #[true, true, true, true, true, true, true, true, true, true, true, true, true, true]) (by kernel_rfl) (by kernel_rfl) (.cons_cons _ (.cons_cons _ .slnil)) 0 rfl (Γ' := [(8, [], .int .u8 (nib (bt s (3 + 2 * i)))), (7, [], .int .u8 (nib (bt s (2 + 2 * i)))), (6, [], .int .i64 (i : Int)), (5, [], .pointer (some ⟨d, 0, none⟩)), (3, [], .pointer (some ⟨r, 0, none⟩)), (0, [], .string s)]) (nd := (fun _ => [])) (fun _ => by kernel_rfl) trivial ?_
        refine CfgA.done (by kernel_rfl) ?_
        refine Cfg.reg rfl [0, 3, 5, 6, 7, 8, 49] [] (Γ' := [(49, [], .bool ((decide ((nib (bt s (2 + 2 * i))) > (15 : Int))) || (decide ((nib (bt s (3 + 2 * i))) > (15 : Int))))), (8, [], .int .u8 (nib (bt s (3 + 2 * i)))), (7, [], .int .u8 (nib (bt s (2 + 2 * i)))), (6, [], .int .i64 (i : Int)), (5, [], .pointer (some ⟨d, 0, none⟩)), (3, [], .pointer (some ⟨r, 0, none⟩)), (0, [], .string s)]) (nd := (fun _ => [])) (fun _ => by kernel_rfl) trivial ?_
        refine Cfg.cond rfl (b := ((decide ((nib (bt s (2 + 2 * i))) > (15 : Int))) || (decide ((nib (bt s (3 + 2 * i))) > (15 : Int))))) (by kernel_rfl) (fun c3r => ?_) (fun c3r => ?_)
        · have c3 : (((nib (bt s (2 + 2 * i))) > (15 : Int)) ∨ ((nib (bt s (3 + 2 * i))) > (15 : Int))) := ((orT c3r).elim (fun h => Or.inl (of_decide_eq_true h)) (fun h => Or.inr (of_decide_eq_true h)))
          refine Cfg.begL rfl ?_
          refine CfgL.pure 2 [(0, false, some (.agg (bv (List.replicate 32 0))))] none (Γ' := [(2, [], .int .u8 0), (50, [], .agg (bv (List.replicate 32 0))), (49, [], .bool ((decide ((nib (bt s (2 + 2 * i))) > (15 : Int))) || (decide ((nib (bt s (3 + 2 * i))) > (15 : Int))))), (8, [], .int .u8 (nib (bt s (3 + 2 * i)))), (7, [], .int .u8 (nib (bt s (2 + 2 * i)))), (6, [], .int .i64 (i : Int)), (5, [], .pointer (some ⟨d, 0, none⟩)), (3, [], .pointer (some ⟨r, 0, none⟩)), (0, [], .string s)]) (nd := (fun S => [(∀ w1, S w1 → (Instr.build 25 #[]).run Try.prog w1 = .ok (.agg (bv (List.replicate 32 0))) w1)])) (by kernel_rfl) (fun _ => by kernel_rfl) ⟨(fun _ _ => by kernel_rfl), trivial⟩ ?_
          refine CfgL.eff (o := _) rfl (by kernel_rfl) (by kernel_rfl) (Eff.storeN (b := r) (off := 0) (vs := (bv (List.replicate 32 0))) (n := 32) rfl (by kernel_rfl) (by kernel_rfl) (by kernel_rfl) zsize (all_bv _) 1 (cs := (bv (List.replicate 32 0))) (e := 25) (by kernel_rfl) (by rw [zsize]; omega)) ?_
          rintro ⟨⟩ -
          refine CfgL.setO (O' := [(d, .cells (bv (parRow (s.extract 2 s.size) (2 * i))) 25 (0, 0)), (r, .cells (bv (List.replicate 32 0)) 25 (0, 0))]) (congrArg (fun (x : Array Value) => ([(d, .cells (bv (parRow (s.extract 2 s.size) (2 * i))) 25 (0, 0)), (r, .cells x 25 (0, 0))] : List (Nat × Obj))) (spl_all (zsize.trans zsize.symm))) ?_
          refine CfgL.pure 1 [] (some [2, 3, 4]) (Γ' := [(4, [], .bool false), (2, [], .int .u8 0), (3, [], .pointer (some ⟨r, 0, none⟩))]) (nd := (fun _ => [])) (by kernel_rfl) (fun _ => by kernel_rfl) trivial ?_
          refine CfgL.done rfl ?_
          refine Cfg.ret rfl (rs := [.tmp 2, .cell 3 25, .tmp 4]) rfl [.int .u8 0, .agg (bv (List.replicate 32 0)), .bool false] ⟨by kernel_rfl, ⟨_, by kernel_rfl, fun w1 h => h.oload 1 rfl Try.underlying25 rfl (n := 32) (by kernel_rfl) zsize⟩, by kernel_rfl, trivial⟩ (fun w1 hp => ?_)
          exact ⟨(np_no (s := s) (by
            unfold npB
            rw [show parB (s.extract 2 s.size) = false by
              unfold parB
              by_cases ha : 15 < nib (bt s (2 + 2 * i))
              · rw [all_no (k := 2 * i) (by rw [ext_sz]; omega) (by rw [eb1 (by omega)]; exact nib_lo ha), Bool.and_false]
              · rw [all_no (k := 2 * i + 1) (by rw [ext_sz]; omega) (by rw [eb2 (by omega)]; exact nib_lo (by omega)), Bool.and_false], Bool.and_false])).symm ▸ rfl, hp.ext⟩
        · have c3 : ((¬ ((nib (bt s (2 + 2 * i))) > (15 : Int))) ∧ (¬ ((nib (bt s (3 + 2 * i))) > (15 : Int)))) := ⟨(of_decide_eq_false (orF1 c3r)), (of_decide_eq_false (orF2 c3r))⟩
          refine Cfg.begL rfl ?_
          refine CfgL.pure 6 [] none (Γ' := [(56, [], .pointer (some ⟨d, i, none⟩)), (55, [], .int .u8 ((((16 * (nib (bt s (2 + 2 * i)))) % 256) + (nib (bt s (3 + 2 * i)))) % 256)), (54, [], .int .u8 (nib (bt s (3 + 2 * i)))), (53, [], .int .u8 ((16 * (nib (bt s (2 + 2 * i)))) % 256)), (52, [], .int .u8 (nib (bt s (2 + 2 * i)))), (51, [], .int .i64 (i : Int)), (49, [], .bool ((decide ((nib (bt s (2 + 2 * i))) > (15 : Int))) || (decide ((nib (bt s (3 + 2 * i))) > (15 : Int))))), (8, [], .int .u8 (nib (bt s (3 + 2 * i)))), (7, [], .int .u8 (nib (bt s (2 + 2 * i)))), (6, [], .int .i64 (i : Int)), (5, [], .pointer (some ⟨d, 0, none⟩)), (3, [], .pointer (some ⟨r, 0, none⟩)), (0, [], .string s)]) (nd := (fun _ => [(0 ≤ (i : Int) ∧ (i : Int) < (32 : Int))])) (by kernel_rfl) (fun _ => by kernel_rfl) ⟨(by omega), trivial⟩ ?_
          refine CfgL.eff (o := _) rfl (by kernel_rfl) (by kernel_rfl) (Eff.store1 (b := d) (off := i) (v := .int .u8 ((((16 * (nib (bt s (2 + 2 * i)))) % 256) + (nib (bt s (3 + 2 * i)))) % 256)) rfl (by kernel_rfl) (by kernel_rfl) rfl (by kernel_rfl) 0 (cs := (bv (parRow (s.extract 2 s.size) (2 * i)))) (e := 25) (by kernel_rfl) (by rw [prsize]; omega)) ?_
          rintro ⟨⟩ -
          refine CfgL.done rfl ?_
          refine Conv.cfg (Γ' := [(6, [], .int .i64 (i : Int)), (5, [], .pointer (some ⟨d, 0, none⟩)), (3, [], .pointer (some ⟨r, 0, none⟩)), (0, [], .string s)]) (Conv.mk (by kernel_rfl)) ?_
          refine Cfg.reg rfl [0, 3, 5, 6] [] (Γ' := [(6, [], .int .i64 ((i : Int) + 1)), (5, [], .pointer (some ⟨d, 0, none⟩)), (3, [], .pointer (some ⟨r, 0, none⟩)), (0, [], .string s)]) (nd := (fun _ => [((-9223372036854775808 : Int) ≤ ((i : Int) + 1) ∧ ((i : Int) + 1) ≤ 9223372036854775807)])) (fun _ => by kernel_rfl) ⟨(by omega), trivial⟩ ?_
          have d1 : digB (bt (s.extract 2 s.size) (2 * i)) = true := by rw [eb1 (by omega)]; exact nib_hi (by omega)
          have d2 : digB (bt (s.extract 2 s.size) (2 * i + 1)) = true := by rw [eb2 (by omega)]; exact nib_hi (by omega)
          have hst := row_step (s.extract 2 s.size) (show i < 32 by omega) d1 d2
          rw [← nib_yes d1, ← nib_yes d2, eb1 (by omega), eb2 (by omega)] at hst
          refine Cfg.setO (O' := [(d, .cells (bv (parRow (s.extract 2 s.size) (2 * (i + 1)))) 25 (0, 0)), (r, .cells (bv (List.replicate 32 0)) 25 (0, 0))]) (congrArg (fun (x : Array Value) => ([(d, .cells x 25 (0, 0)), (r, .cells (bv (List.replicate 32 0)) 25 (0, 0))] : List (Nat × Obj))) (hst)) ?_
          refine Cfg.again rfl (i + 1) ⟨by omega, up2 hall d1 d2⟩ (by omega) (Conv.mk (by kernel_rfl)) (.cons_cons _ (.cons_cons _ .slnil))
      · have c2 : (¬ ((i : Int) < (32 : Int))) := (of_decide_eq_false c2r)
        refine Cfg.begA rfl (by kernel_rfl) [(d, .cells (bv (parRow (s.extract 2 s.size) (2 * i))) 25 (0, 0))] ?_
        refine CfgA.pure [0, 1, 2, 3] [(0, false, none), (0, false, none), (0, false, some (.agg (bv (parRow (s.extract 2 s.size) (2 * i)))))] none (l' := #[true, true, true, true, false, false]) (by kernel_rfl) (by kernel_rfl) (.cons_cons _ (.cons _ .slnil)) 2 rfl (Γ' := [(2, [], .int .u8 (sbyte s (0 : Int))), (59, [], .agg (bv (parRow (s.extract 2 s.size) (2 * i)))), (58, [], .int .u8 (sbyte s (0 : Int))), (57, [], .string s), (29, [], .bool (decide ((i : Int) < (32 : Int)))), (6, [], .int .i64 (i : Int)), (5, [], .pointer (some ⟨d, 0, none⟩)), (3, [], .pointer (some ⟨r, 0, none⟩)), (0, [], .string s)]) (nd := (fun S => [(0 ≤ (0 : Int) ∧ (0 : Int) < (s.size : Int)), (∀ w1, S w1 → (loadVar 25 ⟨d, 0, none⟩).run Try.prog w1 = .ok (.agg (bv (parRow (s.extract 2 s.size) (2 * i)))) w1)])) (fun _ => by kernel_rfl) ⟨(by omega), (fun w1 h => h.oload 0 rfl Try.underlying25 rfl (n := 32) (by kernel_rfl) (prsize _ _)), trivial⟩ ?_
        refine CfgA.eff 4 (o := _) rfl (by kernel_rfl) (fuel' := 1) rfl (by kernel_rfl) (by kernel_rfl) (Eff.storeN (b := r) (off := 0) (vs := (bv (parRow (s.extract 2 s.size) (2 * i)))) (n := 32) rfl (by kernel_rfl) (by kernel_rfl) (by kernel_rfl) (prsize _ _) (all_bv _) 1 (cs := (bv (List.replicate 32 0))) (e := 25) (by kernel_rfl) (by rw [zsize]; omega)) (fun _ _ => (.cons_cons _ (.cons _ .slnil))) ?_
        rintro ⟨⟩ -
        refine CfgA.setO (O' := [(d, .cells (bv (parRow (s.extract 2 s.size) (2 * i))) 25 (0, 0)), (r, .cells (bv (parRow (s.extract 2 s.size) (2 * i))) 25 (0, 0))]) (congrArg (fun (x : Array Value) => ([(d, .cells (bv (parRow (s.extract 2 s.size) (2 * i))) 25 (0, 0)), (r, .cells x 25 (0, 0))] : List (Nat × Obj))) (spl_all ((prsize _ _).trans zsize.symm))) ?_
        refine CfgA.pure [5] [] (some [2, 3, 4]) (l' := #[true, true, true, true, true, true]) (by kernel_rfl) (by kernel_rfl) (.cons_cons _ (.cons _ .slnil)) 0 rfl (Γ' := [(4, [], .bool true), (2, [], .int .u8 (sbyte s (0 : Int))), (3, [], .pointer (some ⟨r, 0, none⟩))]) (nd := (fun _ => [])) (fun _ => by kernel_rfl) trivial ?_
        refine CfgA.done (by kernel_rfl) ?_
        refine Cfg.ret rfl (rs := [.tmp 2, .cell 3 25, .tmp 4]) rfl [.int .u8 (sbyte s (0 : Int)), .agg (bv (parRow (s.extract 2 s.size) (2 * i))), .bool true] ⟨by kernel_rfl, ⟨_, by kernel_rfl, fun w1 h => h.oload 1 rfl Try.underlying25 rfl (n := 32) (by kernel_rfl) (prsize _ _)⟩, by kernel_rfl, trivial⟩ (fun w1 hp => ?_)
        have hi2 : i = 32 := by omega
        subst hi2
        have hpb : parB (s.extract 2 s.size) = true := by unfold parB; rw [decide_eq_true (by rw [ext_sz]; omega), all_yes (by rw [ext_sz, show s.size - 2 = 2 * 32 by omega]; exact hall)]; rfl
        exact ⟨(np_yes (s := s) (by unfold npB; rw [hpb, show hdB s = true by simp [hdB]; omega]; rfl)).symm ▸ (by rw [show parL (s.extract 2 s.size) = parRow (s.extract 2 s.size) (2 * 32) by unfold parL; rw [hpb]; rfl]; rfl), hp.ext⟩

set_option maxRecDepth 100000 in
theorem refFile (c : UInt8) (l : List UInt8) (w : World) (hl : l.length = 32) :
    Calls Try.prog 15 #[.int .u8 (c.toNat : Int), .agg (bv l)] w fun e w' => e = .returned (.string (fileS c l)) ∧ Ext [] w w' := by
  refine enter (vs := [.int .u8 (c.toNat : Int), .agg (bv l)]) [] [] [] Try.func15 rfl (by kernel_rfl) (HP.start w) ?_
  refine Cfg.begL rfl ?_
  refine CfgL.eff (o := _) rfl (by kernel_rfl) (by kernel_rfl) (Eff.box (v := .agg (bv l)) rfl (by kernel_rfl)) ?_
  rintro b1 ⟨hb1, nb1⟩
  refine CfgL.pure 1 [] (some [0, 3]) (Γ' := [(3, [], .pointer (some ⟨b1, 0, none⟩)), (0, [], .int .u8 (c.toNat : Int))]) (nd := (fun _ => [])) (by kernel_rfl) (fun _ => by kernel_rfl) trivial ?_
  refine CfgL.done rfl ?_
  refine Cfg.begA rfl (by kernel_rfl) [(b1, .cells (bv l) 25 (0, 0))] ?_
  refine CfgA.pure [0, 4] [(0, false, none), (0, false, some (.agg (bv l)))] none (l' := #[true, false, false, false, true, false, false, false]) (by kernel_rfl) (by kernel_rfl) (.cons_cons _ .slnil) 6 rfl (Γ' := [(9, [], .agg (bv l)), (5, [], .int .u8 (c.toNat : Int)), (3, [], .pointer (some ⟨b1, 0, none⟩)), (0, [], .int .u8 (c.toNat : Int))]) (nd := (fun S => [(∀ w1, S w1 → (loadVar 25 ⟨b1, 0, none⟩).run Try.prog w1 = .ok (.agg (bv l)) w1)])) (fun _ => by kernel_rfl) ⟨(fun w1 h => h.oload 0 rfl Try.underlying25 rfl (n := 32) (by kernel_rfl) ((bv_size l).trans hl)), trivial⟩ ?_
  refine CfgA.two 1 5 (by kernel_rfl) (fuel' := 5) rfl ?_ ?_
  ·
    refine CfgI.eff (o := _) rfl (by kernel_rfl) (by kernel_rfl) (Eff.buildSlice (e := 5) (cells := (bv [c])) (parts := #[(0, .int .u8 (c.toNat : Int))]) rfl (by kernel_rfl) (fun _ => by kernel_rfl)) (fun _ _ => (.cons _ (.cons_cons _ .slnil))) ?_
    rintro b2 ⟨hb2, nb2⟩
    refine CfgA.two 2 5 (by kernel_rfl) (fuel' := 4) rfl ?_ ?_
    ·
      refine CfgI.eff (o := _) rfl (by kernel_rfl) (by kernel_rfl) (Eff.quiet (raw := false) (orc := some (.string ⟨#[c]⟩)) (v := .string ⟨#[c]⟩) (nd := (fun S => [(∀ w1, S w1 → (Conv.bytesToString (.slice (some ⟨b2, 0, none⟩) 1 1)).run Try.prog w1 = .ok (.string ⟨#[c]⟩) w1)])) (fun _ => by kernel_rfl) ⟨(fun w1 h => h.ostr 0 rfl rfl), trivial⟩ (by kernel_rfl)) (fun _ _ => (.cons _ (.cons_cons _ .slnil))) ?_
      rintro ⟨⟩ -
      refine CfgA.pure [3] [] none (l' := #[true, true, true, true, true, false, false, false]) (by kernel_rfl) (by kernel_rfl) (.cons _ (.cons_cons _ .slnil)) 3 rfl (Γ' := [(8, [], .string ((⟨#[c]⟩ : ByteArray) ++ (⟨#[46]⟩ : ByteArray))), (7, [], .string ⟨#[c]⟩), (6, [], .slice (some ⟨b2, 0, none⟩) 1 1), (9, [], .agg (bv l)), (5, [], .int .u8 (c.toNat : Int)), (3, [], .pointer (some ⟨b1, 0, none⟩)), (0, [], .int .u8 (c.toNat : Int))]) (nd := (fun _ => [(1 + 1 ≤ 9223372036854775807)])) (fun _ => by kernel_rfl) ⟨(by omega), trivial⟩ ?_
      refine CfgA.eff 5 (o := _) rfl (by kernel_rfl) (fuel' := 2) rfl (by kernel_rfl) (by kernel_rfl) (Eff.callA (vs := [.agg (bv l)]) (.string (hexS l)) rfl Try.func20 rfl rfl (by kernel_rfl) (fun w1 _ => refHex l w1 hl)) (fun _ _ => (.cons _ (.cons_cons _ .slnil))) ?_
      rintro ⟨⟩ -
      refine CfgA.pure [6, 7] [] (some [4]) (l' := #[true, true, true, true, true, true, true, true]) (by kernel_rfl) (by kernel_rfl) (.cons _ (.cons_cons _ .slnil)) 0 rfl (Γ' := [(4, [], .string (((⟨#[c]⟩ : ByteArray) ++ (⟨#[46]⟩ : ByteArray)) ++ (hexS l)))]) (nd := (fun _ => [(((⟨#[c]⟩ : ByteArray) ++ (⟨#[46]⟩ : ByteArray)).size + (hexS l).size ≤ 9223372036854775807)])) (fun _ => by kernel_rfl) ⟨(by have := hexS_size hl; have h1 : (⟨#[c]⟩ : ByteArray).size = 1 := rfl; have h2 : (⟨#[46]⟩ : ByteArray).size = 1 := rfl; simp only [ByteArray.size_append]; omega), trivial⟩ ?_
      refine CfgA.done (by kernel_rfl) ?_
      refine Cfg.ret rfl (rs := [.tmp 4]) rfl [.string (((⟨#[c]⟩ : ByteArray) ++ (⟨#[46]⟩ : ByteArray)) ++ (hexS l))] ⟨by kernel_rfl, trivial⟩ (fun w1 hp => ?_)
      exact ⟨rfl, hp.ext⟩
    ·
      refine CfgI.eff (o := _) rfl (by kernel_rfl) (by kernel_rfl) (Eff.callA (vs := [.agg (bv l)]) (.string (hexS l)) rfl Try.func20 rfl rfl (by kernel_rfl) (fun w1 _ => refHex l w1 hl)) (fun _ _ => (.cons _ (.cons_cons _ .slnil))) ?_
      rintro ⟨⟩ -
      refine CfgA.eff 2 (o := _) rfl (by kernel_rfl) (fuel' := 3) rfl (by kernel_rfl) (by kernel_rfl) (Eff.quiet (raw := false) (orc := some (.string ⟨#[c]⟩)) (v := .string ⟨#[c]⟩) (nd := (fun S => [(∀ w1, S w1 → (Conv.bytesToString (.slice (some ⟨b2, 0, none⟩) 1 1)).run Try.prog w1 = .ok (.string ⟨#[c]⟩) w1)])) (fun _ => by kernel_rfl) ⟨(fun w1 h => h.ostr 0 rfl rfl), trivial⟩ (by kernel_rfl)) (fun _ _ => (.cons _ (.cons_cons _ .slnil))) ?_
      rintro ⟨⟩ -
      refine CfgA.pure [3, 6, 7] [] (some [4]) (l' := #[true, true, true, true, true, true, true, true]) (by kernel_rfl) (by kernel_rfl) (.cons _ (.cons_cons _ .slnil)) 0 rfl (Γ' := [(4, [], .string (((⟨#[c]⟩ : ByteArray) ++ (⟨#[46]⟩ : ByteArray)) ++ (hexS l)))]) (nd := (fun _ => [(1 + 1 ≤ 9223372036854775807), (((⟨#[c]⟩ : ByteArray) ++ (⟨#[46]⟩ : ByteArray)).size + (hexS l).size ≤ 9223372036854775807)])) (fun _ => by kernel_rfl) ⟨(by omega), (by have := hexS_size hl; have h1 : (⟨#[c]⟩ : ByteArray).size = 1 := rfl; have h2 : (⟨#[46]⟩ : ByteArray).size = 1 := rfl; simp only [ByteArray.size_append]; omega), trivial⟩ ?_
      refine CfgA.done (by kernel_rfl) ?_
      refine Cfg.ret rfl (rs := [.tmp 4]) rfl [.string (((⟨#[c]⟩ : ByteArray) ++ (⟨#[46]⟩ : ByteArray)) ++ (hexS l))] ⟨by kernel_rfl, trivial⟩ (fun w1 hp => ?_)
      exact ⟨rfl, hp.ext⟩
  ·
    refine CfgI.eff (o := _) rfl (by kernel_rfl) (by kernel_rfl) (Eff.callA (vs := [.agg (bv l)]) (.string (hexS l)) rfl Try.func20 rfl rfl (by kernel_rfl) (fun w1 _ => refHex l w1 hl)) (fun _ _ => (.cons_cons _ .slnil)) ?_
    rintro ⟨⟩ -
    refine CfgA.eff 1 (o := _) rfl (by kernel_rfl) (fuel' := 4) rfl (by kernel_rfl) (by kernel_rfl) (Eff.buildSlice (e := 5) (cells := (bv [c])) (parts := #[(0, .int .u8 (c.toNat : Int))]) rfl (by kernel_rfl) (fun _ => by kernel_rfl)) (fun _ _ => (.cons _ (.cons_cons _ .slnil))) ?_
    rintro b3 ⟨hb3, nb3⟩
    refine CfgA.eff 2 (o := _) rfl (by kernel_rfl) (fuel' := 3) rfl (by kernel_rfl) (by kernel_rfl) (Eff.quiet (raw := false) (orc := some (.string ⟨#[c]⟩)) (v := .string ⟨#[c]⟩) (nd := (fun S => [(∀ w1, S w1 → (Conv.bytesToString (.slice (some ⟨b3, 0, none⟩) 1 1)).run Try.prog w1 = .ok (.string ⟨#[c]⟩) w1)])) (fun _ => by kernel_rfl) ⟨(fun w1 h => h.ostr 0 rfl rfl), trivial⟩ (by kernel_rfl)) (fun _ _ => (.cons _ (.cons_cons _ .slnil))) ?_
    rintro ⟨⟩ -
    refine CfgA.pure [3, 6, 7] [] (some [4]) (l' := #[true, true, true, true, true, true, true, true]) (by kernel_rfl) (by kernel_rfl) (.cons _ (.cons_cons _ .slnil)) 0 rfl (Γ' := [(4, [], .string (((⟨#[c]⟩ : ByteArray) ++ (⟨#[46]⟩ : ByteArray)) ++ (hexS l)))]) (nd := (fun _ => [(1 + 1 ≤ 9223372036854775807), (((⟨#[c]⟩ : ByteArray) ++ (⟨#[46]⟩ : ByteArray)).size + (hexS l).size ≤ 9223372036854775807)])) (fun _ => by kernel_rfl) ⟨(by omega), (by have := hexS_size hl; have h1 : (⟨#[c]⟩ : ByteArray).size = 1 := rfl; have h2 : (⟨#[46]⟩ : ByteArray).size = 1 := rfl; simp only [ByteArray.size_append]; omega), trivial⟩ ?_
    refine CfgA.done (by kernel_rfl) ?_
    refine Cfg.ret rfl (rs := [.tmp 4]) rfl [.string (((⟨#[c]⟩ : ByteArray) ++ (⟨#[46]⟩ : ByteArray)) ++ (hexS l))] ⟨by kernel_rfl, trivial⟩ (fun w1 hp => ?_)
    exact ⟨rfl, hp.ext⟩

end Go.Proofs.Ytaggpgnijnjedaa
