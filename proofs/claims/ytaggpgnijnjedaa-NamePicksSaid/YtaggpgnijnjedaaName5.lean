/- name.Parse. Condition: the text is no longer than any can be. -/
import Derived.Test.YtaggpgnijnjedaaName4
namespace Go.Proofs.Ytaggpgnijnjedaa
open K
set_option linter.unusedVariables false

/-- A file's kind is asked: is it an object's or a pack's? -/
def hdB (s : ByteArray) : Bool := decide (2 ≤ s.size) && (sbyte s 0 == 111 || sbyte s 0 == 112) && sbyte s 1 == 46
def npB (s : ByteArray) : Bool := hdB s && parB (s.extract 2 s.size)
def npK (s : ByteArray) : Int := if npB s then sbyte s 0 else 0
def npL (s : ByteArray) : List UInt8 := if npB s then parL (s.extract 2 s.size) else List.replicate 32 0
def npV (s : ByteArray) : Value := .tuple #[.int .u8 (npK s), .agg (bv (npL s)), .bool (npB s)]
theorem np_no {s : ByteArray} (h : npB s = false) : Ending.returned (npV s) = .returned (.tuple #[.int .u8 0, .agg (bv (List.replicate 32 0)), .bool false]) := by simp [npV, npK, npL, h]
theorem np_yes {s : ByteArray} (h : npB s = true) : Ending.returned (npV s) = .returned (.tuple #[.int .u8 (sbyte s 0), .agg (bv (parL (s.extract 2 s.size))), .bool true]) := by simp [npV, npK, npL, h]
theorem psize (s : ByteArray) : (bv (parL s)).size = 32 := (bv_size _).trans (parL_len s)
theorem npL_len (s : ByteArray) : (npL s).length = 32 := by unfold npL; split <;> simp [parL_len]

set_option maxRecDepth 100000 in
theorem nameParse (s : ByteArray) (w : World) (hs : s.size ≤ maxLen) :
    Calls Try.prog 13 #[.string s] w fun e w' => e = .returned (npV s) ∧ Ext [] w w' := by
  have hm := hs
  unfold maxLen at hs
  refine enter (vs := [.string s]) [] [] [] Try.func13 rfl (by kernel_rfl) (HP.start w) ?_
  refine Cfg.begL rfl ?_
  refine CfgL.pure 1 [] none (Γ' := [(2, [], .int .u8 0), (0, [], .string s)]) (nd := (fun _ => [])) (by kernel_rfl) (fun _ => by kernel_rfl) trivial ?_
  refine CfgL.eff (o := _) rfl (by kernel_rfl) (by kernel_rfl) (Eff.alloc (z := (.agg (bv (List.replicate 32 0)))) rfl (by kernel_rfl)) ?_
  rintro r ⟨hr, nr⟩
  refine CfgL.pure 1 [] (some [0, 3]) (Γ' := [(3, [], .pointer (some ⟨r, 0, none⟩)), (0, [], .string s)]) (nd := (fun _ => [])) (by kernel_rfl) (fun _ => by kernel_rfl) trivial ?_
  refine CfgL.done rfl ?_
  refine Cfg.reg rfl [0, 3, 24] [] (Γ' := [(24, [], .bool (((decide ((s.size : Int) < (2 : Int))) || (((sbyte s (0 : Int)) != (111 : Int)) && ((sbyte s (0 : Int)) != (112 : Int)))) || ((sbyte s (1 : Int)) != (46 : Int)))), (3, [], .pointer (some ⟨r, 0, none⟩)), (0, [], .string s)]) (nd := (fun _ => [((.bool (decide ((s.size : Int) < (2 : Int))) : Value) = .bool false → (0 ≤ (0 : Int) ∧ (0 : Int) < (s.size : Int))), ((.bool ((sbyte s (0 : Int)) != (111 : Int)) : Value) = .bool true → ((.bool (decide ((s.size : Int) < (2 : Int))) : Value) = .bool false → (0 ≤ (0 : Int) ∧ (0 : Int) < (s.size : Int)))), ((.bool ((decide ((s.size : Int) < (2 : Int))) || (((sbyte s (0 : Int)) != (111 : Int)) && ((sbyte s (0 : Int)) != (112 : Int)))) : Value) = .bool false → (0 ≤ (1 : Int) ∧ (1 : Int) < (s.size : Int)))])) (fun _ => by kernel_rfl) ⟨(fun g0 => have q0 : (¬ ((s.size : Int) < (2 : Int))) := (of_decide_eq_false (boolV g0)); (by omega)), (fun g0 g1 => have q0 : ((sbyte s (0 : Int)) ≠ (111 : Int)) := (bne_iff_ne.1 (boolV g0)); have q1 : (¬ ((s.size : Int) < (2 : Int))) := (of_decide_eq_false (boolV g1)); (by omega)), (fun g0 => have q0 : ((¬ ((s.size : Int) < (2 : Int))) ∧ (((sbyte s (0 : Int)) = (111 : Int)) ∨ ((sbyte s (0 : Int)) = (112 : Int)))) := ⟨(of_decide_eq_false (orF1 (boolV g0))), ((andF (orF2 (boolV g0))).elim (fun h => Or.inl (bne_eq_false_iff_eq.1 h)) (fun h => Or.inr (bne_eq_false_iff_eq.1 h)))⟩; (by omega)), trivial⟩ ?_
  refine Cfg.cond rfl (b := (((decide ((s.size : Int) < (2 : Int))) || (((sbyte s (0 : Int)) != (111 : Int)) && ((sbyte s (0 : Int)) != (112 : Int)))) || ((sbyte s (1 : Int)) != (46 : Int)))) (by kernel_rfl) (fun c1r => ?_) (fun c1r => ?_)
  · have c1 : ((((s.size : Int) < (2 : Int)) ∨ (((sbyte s (0 : Int)) ≠ (111 : Int)) ∧ ((sbyte s (0 : Int)) ≠ (112 : Int)))) ∨ ((sbyte s (1 : Int)) ≠ (46 : Int))) := ((orT c1r).elim (fun h => Or.inl ((orT h).elim (fun h => Or.inl (of_decide_eq_true h)) (fun h => Or.inr ⟨(bne_iff_ne.1 (andT1 h)), (bne_iff_ne.1 (andT2 h))⟩))) (fun h => Or.inr (bne_iff_ne.1 h)))
    refine Cfg.begL rfl ?_
    refine CfgL.pure 2 [(0, false, some (.agg (bv (List.replicate 32 0))))] none (Γ' := [(2, [], .int .u8 0), (25, [], .agg (bv (List.replicate 32 0))), (24, [], .bool (((decide ((s.size : Int) < (2 : Int))) || (((sbyte s (0 : Int)) != (111 : Int)) && ((sbyte s (0 : Int)) != (112 : Int)))) || ((sbyte s (1 : Int)) != (46 : Int)))), (3, [], .pointer (some ⟨r, 0, none⟩)), (0, [], .string s)]) (nd := (fun S => [(∀ w1, S w1 → (Instr.build 25 #[]).run Try.prog w1 = .ok (.agg (bv (List.replicate 32 0))) w1)])) (by kernel_rfl) (fun _ => by kernel_rfl) ⟨(fun _ _ => by kernel_rfl), trivial⟩ ?_
    refine CfgL.eff (o := _) rfl (by kernel_rfl) (by kernel_rfl) (Eff.storeN (b := r) (off := 0) (vs := (bv (List.replicate 32 0))) (n := 32) rfl (by kernel_rfl) (by kernel_rfl) (by kernel_rfl) zsize (all_bv _) 0 (cs := (bv (List.replicate 32 0))) (e := 25) (by kernel_rfl) (by rw [zsize]; omega)) ?_
    rintro ⟨⟩ -
    refine CfgL.setO (O' := [(r, .cells (bv (List.replicate 32 0)) 25 (0, 0))]) (congrArg (fun (x : Array Value) => ([(r, .cells x 25 (0, 0))] : List (Nat × Obj))) (spl_all (zsize.trans zsize.symm))) ?_
    refine CfgL.pure 1 [] (some [2, 3, 4]) (Γ' := [(4, [], .bool false), (2, [], .int .u8 0), (3, [], .pointer (some ⟨r, 0, none⟩))]) (nd := (fun _ => [])) (by kernel_rfl) (fun _ => by kernel_rfl) trivial ?_
    refine CfgL.done rfl ?_
    refine Cfg.ret rfl (rs := [.tmp 2, .cell 3 25, .tmp 4]) rfl [.int .u8 0, .agg (bv (List.replicate 32 0)), .bool false] ⟨by kernel_rfl, ⟨_, by kernel_rfl, fun w1 h => h.oload 0 rfl Try.underlying25 rfl (n := 32) (by kernel_rfl) zsize⟩, by kernel_rfl, trivial⟩ (fun w1 hp => ?_)
    exact ⟨(np_no (s := s) (by unfold npB; rw [show hdB s = false by simp [hdB]; omega, Bool.false_and])).symm ▸ rfl, hp.ext⟩
  · have c1 : (((¬ ((s.size : Int) < (2 : Int))) ∧ (((sbyte s (0 : Int)) = (111 : Int)) ∨ ((sbyte s (0 : Int)) = (112 : Int)))) ∧ ((sbyte s (1 : Int)) = (46 : Int))) := ⟨⟨(of_decide_eq_false (orF1 (orF1 c1r))), ((andF (orF2 (orF1 c1r))).elim (fun h => Or.inl (bne_eq_false_iff_eq.1 h)) (fun h => Or.inr (bne_eq_false_iff_eq.1 h)))⟩, (bne_eq_false_iff_eq.1 (orF2 c1r))⟩
    refine Cfg.begL rfl ?_
    refine CfgL.pure 2 [] none (Γ' := [(28, [], .string (s.extract 2 s.size)), (27, [], .string s), (24, [], .bool (((decide ((s.size : Int) < (2 : Int))) || (((sbyte s (0 : Int)) != (111 : Int)) && ((sbyte s (0 : Int)) != (112 : Int)))) || ((sbyte s (1 : Int)) != (46 : Int)))), (3, [], .pointer (some ⟨r, 0, none⟩)), (0, [], .string s)]) (nd := (fun _ => [(0 ≤ (2 : Int)), (2 ≤ s.size ∧ s.size ≤ s.size)])) (by kernel_rfl) (fun _ => by kernel_rfl) ⟨(by omega), (by omega), trivial⟩ ?_
    refine CfgL.eff (o := _) rfl (by kernel_rfl) (by kernel_rfl) (Eff.callA (vs := [.string (s.extract 2 s.size)]) (.tuple #[.agg (bv (parL (s.extract 2 s.size))), .bool (parB (s.extract 2 s.size))]) rfl Try.func18 rfl rfl (by kernel_rfl) (fun w1 _ => shaParse (s.extract 2 s.size) w1 (by unfold maxLen; simp only [ByteArray.size_extract]; omega))) ?_
    rintro ⟨⟩ -
    refine CfgL.pure 3 [] none (Γ' := [(31, [], .bool (parB (s.extract 2 s.size))), (30, [], .agg (bv (parL (s.extract 2 s.size)))), (26, [], .tuple #[.agg (bv (parL (s.extract 2 s.size))), .bool (parB (s.extract 2 s.size))]), (29, [], .tuple #[.agg (bv (parL (s.extract 2 s.size))), .bool (parB (s.extract 2 s.size))]), (28, [], .string (s.extract 2 s.size)), (27, [], .string s), (24, [], .bool (((decide ((s.size : Int) < (2 : Int))) || (((sbyte s (0 : Int)) != (111 : Int)) && ((sbyte s (0 : Int)) != (112 : Int)))) || ((sbyte s (1 : Int)) != (46 : Int)))), (3, [], .pointer (some ⟨r, 0, none⟩)), (0, [], .string s)]) (nd := (fun _ => [])) (by kernel_rfl) (fun _ => by kernel_rfl) trivial ?_
    refine CfgL.eff (o := _) rfl (by kernel_rfl) (by kernel_rfl) (Eff.alloc (z := (.agg (bv (List.replicate 32 0)))) rfl (by kernel_rfl)) ?_
    rintro d ⟨hd, nd⟩
    refine CfgL.eff (o := _) rfl (by kernel_rfl) (by kernel_rfl) (Eff.storeN (b := d) (off := 0) (vs := (bv (parL (s.extract 2 s.size)))) (n := 32) rfl (by kernel_rfl) (by kernel_rfl) (by kernel_rfl) (psize _) (all_bv _) 0 (cs := (bv (List.replicate 32 0))) (e := 25) (by kernel_rfl) (by rw [zsize]; omega)) ?_
    rintro ⟨⟩ -
    refine CfgL.setO (O' := [(d, .cells (bv (parL (s.extract 2 s.size))) 25 (0, 0)), (r, .cells (bv (List.replicate 32 0)) 25 (0, 0))]) (congrArg (fun (x : Array Value) => ([(d, .cells x 25 (0, 0)), (r, .cells (bv (List.replicate 32 0)) 25 (0, 0))] : List (Nat × Obj))) (spl_all ((psize _).trans zsize.symm))) ?_
    refine CfgL.pure 1 [] (some [0, 3, 5, 6]) (Γ' := [(6, [], .bool (parB (s.extract 2 s.size))), (5, [], .pointer (some ⟨d, 0, none⟩)), (3, [], .pointer (some ⟨r, 0, none⟩)), (0, [], .string s)]) (nd := (fun _ => [])) (by kernel_rfl) (fun _ => by kernel_rfl) trivial ?_
    refine CfgL.done rfl ?_
    refine Cfg.reg rfl [0, 3, 5, 33] [] (Γ' := [(33, [], .bool (!(parB (s.extract 2 s.size)))), (5, [], .pointer (some ⟨d, 0, none⟩)), (3, [], .pointer (some ⟨r, 0, none⟩)), (0, [], .string s)]) (nd := (fun _ => [])) (fun _ => by kernel_rfl) trivial ?_
    refine Cfg.cond rfl (b := (!(parB (s.extract 2 s.size)))) (by kernel_rfl) (fun c2r => ?_) (fun c2r => ?_)
    · have c2 : ((parB (s.extract 2 s.size)) = false) := (notT c2r)
      refine Cfg.begL rfl ?_
      refine CfgL.pure 2 [(0, false, some (.agg (bv (List.replicate 32 0))))] none (Γ' := [(2, [], .int .u8 0), (34, [], .agg (bv (List.replicate 32 0))), (33, [], .bool (!(parB (s.extract 2 s.size)))), (5, [], .pointer (some ⟨d, 0, none⟩)), (3, [], .pointer (some ⟨r, 0, none⟩)), (0, [], .string s)]) (nd := (fun S => [(∀ w1, S w1 → (Instr.build 25 #[]).run Try.prog w1 = .ok (.agg (bv (List.replicate 32 0))) w1)])) (by kernel_rfl) (fun _ => by kernel_rfl) ⟨(fun _ _ => by kernel_rfl), trivial⟩ ?_
      refine CfgL.eff (o := _) rfl (by kernel_rfl) (by kernel_rfl) (Eff.storeN (b := r) (off := 0) (vs := (bv (List.replicate 32 0))) (n := 32) rfl (by kernel_rfl) (by kernel_rfl) (by kernel_rfl) zsize (all_bv _) 1 (cs := (bv (List.replicate 32 0))) (e := 25) (by kernel_rfl) (by rw [zsize]; omega)) ?_
      rintro ⟨⟩ -
      refine CfgL.setO (O' := [(d, .cells (bv (parL (s.extract 2 s.size))) 25 (0, 0)), (r, .cells (bv (List.replicate 32 0)) 25 (0, 0))]) (congrArg (fun (x : Array Value) => ([(d, .cells (bv (parL (s.extract 2 s.size))) 25 (0, 0)), (r, .cells x 25 (0, 0))] : List (Nat × Obj))) (spl_all (zsize.trans zsize.symm))) ?_
      refine CfgL.pure 1 [] (some [2, 3, 4]) (Γ' := [(4, [], .bool false), (2, [], .int .u8 0), (3, [], .pointer (some ⟨r, 0, none⟩))]) (nd := (fun _ => [])) (by kernel_rfl) (fun _ => by kernel_rfl) trivial ?_
      refine CfgL.done rfl ?_
      refine Cfg.ret rfl (rs := [.tmp 2, .cell 3 25, .tmp 4]) rfl [.int .u8 0, .agg (bv (List.replicate 32 0)), .bool false] ⟨by kernel_rfl, ⟨_, by kernel_rfl, fun w1 h => h.oload 1 rfl Try.underlying25 rfl (n := 32) (by kernel_rfl) zsize⟩, by kernel_rfl, trivial⟩ (fun w1 hp => ?_)
      exact ⟨(np_no (s := s) (by unfold npB; rw [c2, Bool.and_false])).symm ▸ rfl, hp.ext⟩
    · have c2 : ((parB (s.extract 2 s.size)) = true) := (notF c2r)
      refine Cfg.begA rfl (by kernel_rfl) [(d, .cells (bv (parL (s.extract 2 s.size))) 25 (0, 0))] ?_
      refine CfgA.pure [0, 1, 2, 3] [(0, false, none), (0, false, none), (0, false, some (.agg (bv (parL (s.extract 2 s.size)))))] none (l' := #[true, true, true, true, false, false]) (by kernel_rfl) (by kernel_rfl) (.cons_cons _ (.cons _ .slnil)) 2 rfl (Γ' := [(2, [], .int .u8 (sbyte s (0 : Int))), (37, [], .agg (bv (parL (s.extract 2 s.size)))), (36, [], .int .u8 (sbyte s (0 : Int))), (35, [], .string s), (33, [], .bool (!(parB (s.extract 2 s.size)))), (5, [], .pointer (some ⟨d, 0, none⟩)), (3, [], .pointer (some ⟨r, 0, none⟩)), (0, [], .string s)]) (nd := (fun S => [(0 ≤ (0 : Int) ∧ (0 : Int) < (s.size : Int)), (∀ w1, S w1 → (loadVar 25 ⟨d, 0, none⟩).run Try.prog w1 = .ok (.agg (bv (parL (s.extract 2 s.size)))) w1)])) (fun _ => by kernel_rfl) ⟨(by omega), (fun w1 h => h.oload 0 rfl Try.underlying25 rfl (n := 32) (by kernel_rfl) ((bv_size _).trans (parL_len _))), trivial⟩ ?_
      refine CfgA.eff 4 (o := _) rfl (by kernel_rfl) (fuel' := 1) rfl (by kernel_rfl) (by kernel_rfl) (Eff.storeN (b := r) (off := 0) (vs := (bv (parL (s.extract 2 s.size)))) (n := 32) rfl (by kernel_rfl) (by kernel_rfl) (by kernel_rfl) (psize _) (all_bv _) 1 (cs := (bv (List.replicate 32 0))) (e := 25) (by kernel_rfl) (by rw [zsize]; omega)) (fun _ _ => (.cons_cons _ (.cons _ .slnil))) ?_
      rintro ⟨⟩ -
      refine CfgA.setO (O' := [(d, .cells (bv (parL (s.extract 2 s.size))) 25 (0, 0)), (r, .cells (bv (parL (s.extract 2 s.size))) 25 (0, 0))]) (congrArg (fun (x : Array Value) => ([(d, .cells (bv (parL (s.extract 2 s.size))) 25 (0, 0)), (r, .cells x 25 (0, 0))] : List (Nat × Obj))) (spl_all ((psize _).trans zsize.symm))) ?_
      refine CfgA.pure [5] [] (some [2, 3, 4]) (l' := #[true, true, true, true, true, true]) (by kernel_rfl) (by kernel_rfl) (.cons_cons _ (.cons _ .slnil)) 0 rfl (Γ' := [(4, [], .bool true), (2, [], .int .u8 (sbyte s (0 : Int))), (3, [], .pointer (some ⟨r, 0, none⟩))]) (nd := (fun _ => [])) (fun _ => by kernel_rfl) trivial ?_
      refine CfgA.done (by kernel_rfl) ?_
      refine Cfg.ret rfl (rs := [.tmp 2, .cell 3 25, .tmp 4]) rfl [.int .u8 (sbyte s (0 : Int)), .agg (bv (parL (s.extract 2 s.size))), .bool true] ⟨by kernel_rfl, ⟨_, by kernel_rfl, fun w1 h => h.oload 1 rfl Try.underlying25 rfl (n := 32) (by kernel_rfl) (psize _)⟩, by kernel_rfl, trivial⟩ (fun w1 hp => ?_)
      exact ⟨(np_yes (s := s) (by unfold npB; rw [c2, show hdB s = true by simp [hdB]; omega]; rfl)).symm ▸ rfl, hp.ext⟩

end Go.Proofs.Ytaggpgnijnjedaa
