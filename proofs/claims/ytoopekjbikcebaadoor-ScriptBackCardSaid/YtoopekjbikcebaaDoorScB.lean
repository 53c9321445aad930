/- script: a step's line, by the program and by the document. -/
import Derived.Test.YtoopekjbikcebaaDoorScA
namespace Go.Proofs.YtoopekjbikcebaaDoor
open K
set_option linter.unusedVariables false

/-- A step's cells. -/
def stv (s : Stp) : Array Value := #[.int .i64 s.1, .int .u32 (s.2.1 : Int), .int .u32 (s.2.2.1 : Int), .int .u32 (s.2.2.2.1 : Int), .int .u32 (s.2.2.2.2.1 : Int), .int .u32 (s.2.2.2.2.2 : Int)]
def lineR (s : Stp) : List UInt8 := if lineE s = 0 then lineT s else []
def nums (l : List Nat) : Array Value := (l.map fun (n : Nat) => Value.int .u32 (n : Int)).toArray
theorem inS_nums (bk : Nat) (t : TypeId) (fr : Nat × Nat) (l : List Nat) : InS [(bk, .cells (nums l) t fr)] (some ⟨bk, 0, none⟩) l.length (fun j => .int .u32 ((l.getD j 0 : Nat) : Int)) := by
  intro _
  refine ⟨bk, 0, _, t, fr, rfl, List.mem_singleton.2 rfl, fun j hj => ?_⟩
  rw [Nat.zero_add]
  simp [nums, List.getElem?_eq_getElem hj]
theorem num_at {l : List Nat} (h : ∀ n ∈ l, n ≤ 4294967295) (i : Nat) : l.getD i 0 ≤ 4294967295 := by
  rw [List.getD_eq_getElem?_getD]
  by_cases hi : i < l.length
  · rw [List.getElem?_eq_getElem hi]; exact h _ (List.getElem_mem hi)
  · rw [List.getElem?_eq_none (by omega)]; exact Nat.zero_le _
theorem dlen {n : Nat} (h : n ≤ 4294967295) : (Lib.decDigits n).length ≤ 10 := dec_len (u := n) (k := 9) (by omega)
theorem part_len {l : List Nat} (h : ∀ n ∈ l, n ≤ 4294967295) (i : Nat) : ((l.take i).flatMap spD).length ≤ 11 * l.length := by
  have h1 := flat_len (l.take i) (fun n hn => h n (List.mem_of_mem_take hn))
  have h2 : (l.take i).length ≤ l.length := by rw [List.length_take]; omega
  omega
theorem flat_next {l : List Nat} {i : Nat} (h : i < l.length) : (l.take (i + 1)).flatMap spD = (l.take i).flatMap spD ++ ([32] ++ Lib.decDigits (l.getD i 0)) := by
  rw [List.take_succ_eq_append_getElem h, List.flatMap_append, List.flatMap_cons, List.flatMap_nil, List.append_nil, List.getD_eq_getElem?_getD, List.getElem?_eq_getElem h]; rfl
theorem words_at {k : Int} (h1 : 1 ≤ k) (h2 : k ≤ 4) : (wordsV : Array Value)[k.toNat]? = some (.string (tx (wdK k))) := by
  have : k = 1 ∨ k = 2 ∨ k = 3 ∨ k = 4 := by omega
  rcases this with rfl | rfl | rfl | rfl <;> rfl
theorem lineE_out {s : Stp} (h : s.1 < 1 ∨ 4 < s.1) : lineE s = 11 := if_pos h
theorem lineE_three {s : Stp} (h : s.1 = 3) : lineE s = 0 := by unfold lineE; rw [if_neg (by omega), if_pos h]
theorem lineE_bare {s : Stp} (h0 : ¬ (s.1 < 1 ∨ 4 < s.1)) (h : bare s) : lineE s = 0 := by
  unfold lineE
  rw [if_neg h0]
  by_cases h3 : s.1 = 3
  · rw [if_pos h3]
  · rw [if_neg h3, if_pos h]
theorem lineE_form {s : Stp} (h0 : ¬ (s.1 < 1 ∨ 4 < s.1)) (h3 : s.1 ≠ 3) (h : ¬ bare s) : lineE s = 4 := by unfold lineE; rw [if_neg h0, if_neg h3, if_neg h]
theorem lineR_bad {s : Stp} (h : lineE s ≠ 0) : lineR s = [] := if_neg h
theorem lineR_ok {s : Stp} (h : lineE s = 0) : lineR s = lineT s := if_pos h

set_option maxRecDepth 100000 in
theorem sJoin (wd : ByteArray) (la : Option Addr) (cap : Nat) (l : List Nat) (Rl : List (Nat × Obj)) (t0 : TypeId) (fr0 : Nat × Nat) (w : World) (hI : InS Rl la l.length (fun j => .int .u32 ((l.getD j 0 : Nat) : Int))) (hR : Has w ((0, .cells pv t0 fr0) :: Rl)) (hq : ∀ n ∈ l, n ≤ 4294967295) (hl : l.length ≤ 100) (hw : wd.size ≤ 1000) :
    Calls Tryd.prog 13 #[.string wd, .slice la l.length cap] w fun e w' => e = .returned (.string (tx (joinT wd.data.toList l))) ∧ Ext [] w w' := by
  refine enter (vs := [.string wd, .slice la l.length cap]) [] ((0, .cells pv t0 fr0) :: Rl) [] Tryd.func13 rfl (by kernel_rfl) (HP.ofHas hR) ?_
  refine Cfg.reg rfl [0, 1] [] (Γ' := [(0, [], .string wd), (1, [], .slice la l.length cap)]) (nd := (fun _ => [])) (fun _ => by kernel_rfl) trivial ?_
  refine Cfg.begL rfl ?_
  refine CfgL.eff (o := _) rfl (by kernel_rfl) (by kernel_rfl) (Eff.allocB 5 [] [] rfl rfl (by kernel_rfl)) ?_
  rintro b ⟨hb, nb⟩
  refine CfgL.done rfl ?_
  refine Cfg.begL rfl ?_
  refine CfgL.pure 1 [] (some [1, 5, 8]) (Γ' := [(8, [], .string wd), (5, [], .pointer (some ⟨b, 0, none⟩)), (1, [], .slice la l.length cap)]) (nd := (fun _ => [])) (by kernel_rfl) (fun _ => by kernel_rfl) trivial ?_
  refine CfgL.eff (o := _) rfl (by kernel_rfl) (by kernel_rfl) (Eff.callH (vs := [.pointer (some ⟨b, 0, none⟩), .string wd]) (fun _ => (.tuple #[.int .i64 (wd.size : Int), .nilIface] : Value)) (bl 46 5 b ([]) bd0) (fun B1 => bl 46 5 b (([]) ++ wd.data.toList) B1) (fun B1 => BdOk b (([]) ++ wd.data.toList) B1) [] [] (by rfl) rfl Tryd.func15 rfl rfl (by kernel_rfl) (fun w1 h hh hd => bWriteString b ([]) bd0 wd w1 (bd0_ok b) hh hd (by simp only [List.length_nil]; omega))) ?_
  rintro B1 kB1
  refine CfgL.done rfl ?_
  refine Conv.cfg (Γ' := [(5, [], .pointer (some ⟨b, 0, none⟩)), (1, [], .slice la l.length cap)]) (Conv.mk (by kernel_rfl)) ?_
  refine Cfg.reg rfl [5, 10, 11, 12] [] (Γ' := [(12, [], .int .i64 0), (11, [], .int .i64 (l.length : Int)), (10, [], .slice la l.length cap), (5, [], .pointer (some ⟨b, 0, none⟩))]) (nd := (fun _ => [])) (fun _ => by kernel_rfl) trivial ?_
  refine Cfg.setO (O' := ([] ++ (bl 46 5 b (wd.data.toList ++ (l.take 0).flatMap spD) B1 ++ []))) (congrArg (fun (xq : List UInt8) => (([] ++ (bl 46 5 b xq B1 ++ [])) : List (Nat × Obj))) (by rw [List.take_zero]; simp)) ?_
  refine Cfg.loop rfl (ι := Nat × Bd) (fun (xz : Nat × Bd) => match xz with | (i, B) => [(12, [], .int .i64 (i : Int)), (11, [], .int .i64 (l.length : Int)), (10, [], .slice la l.length cap), (5, [], .pointer (some ⟨b, 0, none⟩))]) (fun (xz : Nat × Bd) => match xz with | (i, B) => ([] ++ (bl 46 5 b (wd.data.toList ++ (l.take i).flatMap spD) B ++ []))) (fun (xz : Nat × Bd) => match xz with | (i, B) => (i ≤ l.length) ∧ (BdOk b (wd.data.toList ++ (l.take i).flatMap spD) B)) (fun (xz : Nat × Bd) => match xz with | (i, B) => l.length - i) (0, B1) ?_ (Conv.mk (by kernel_rfl)) (List.Sublist.refl _) ?_
  · exact ⟨Nat.zero_le _, by rw [List.take_zero, show wd.data.toList ++ List.flatMap spD [] = [] ++ wd.data.toList by simp]; exact kB1⟩
  · rintro ⟨i, B⟩ ⟨hi, hB⟩
    refine Cfg.reg rfl [5, 10, 11, 12, 13] [] (Γ' := [(13, [], .bool (decide ((i : Int) < (l.length : Int)))), (12, [], .int .i64 (i : Int)), (11, [], .int .i64 (l.length : Int)), (10, [], .slice la l.length cap), (5, [], .pointer (some ⟨b, 0, none⟩))]) (nd := (fun _ => [])) (fun _ => by kernel_rfl) trivial ?_
    refine Cfg.cond rfl (b := (decide ((i : Int) < (l.length : Int)))) (by kernel_rfl) (fun c1r => ?_) (fun c1r => ?_)
    · have c1 : ((i : Int) < (l.length : Int)) := (of_decide_eq_true c1r)
      obtain ⟨sb, off, cs, te, fre, rfl, hmem, hcs⟩ := hI (by omega)
      have hv := num_at hq i
      refine Conv.cfg (Γ' := [(13, [], .bool (decide ((i : Int) < (l.length : Int)))), (12, [], .int .i64 (i : Int)), (11, [], .int .i64 (l.length : Int)), (10, [], .slice (some ⟨sb, off, none⟩) l.length cap), (5, [], .pointer (some ⟨b, 0, none⟩))]) (Conv.mk (by kernel_rfl)) ?_
      refine Cfg.reg rfl [5, 7, 10, 11, 12] [(0, false, none), (0, false, some (.int .u32 ((l.getD i 0) : Int)))] (Γ' := [(7, [], .int .u32 ((l.getD i 0) : Int)), (12, [], .int .i64 (i : Int)), (11, [], .int .i64 (l.length : Int)), (10, [], .slice (some ⟨sb, off, none⟩) l.length cap), (5, [], .pointer (some ⟨b, 0, none⟩))]) (nd := (fun S => [(0 ≤ (i : Int) ∧ (i : Int) < (l.length : Int)), (∀ w1, S w1 → w1.cell? ⟨sb, (addO off i), none⟩ = some (.int .u32 ((l.getD i 0) : Int)))])) (fun _ => by kernel_rfl) ⟨(by omega), (fun w1 h => by rw [addO_eq]; exact (cell_cells (h.ro _ (List.mem_cons_of_mem _ hmem))).trans (hcs i (by omega))), trivial⟩ ?_
      refine Cfg.begL rfl ?_
      refine CfgL.eff (o := _) rfl (by kernel_rfl) (by kernel_rfl) (Eff.callH (vs := [.pointer (some ⟨b, 0, none⟩), .int .u8 32]) (fun _ => (.nilIface : Value)) (bl 46 5 b (wd.data.toList ++ (l.take i).flatMap spD) B) (fun B1 => bl 46 5 b ((wd.data.toList ++ (l.take i).flatMap spD) ++ [32]) B1) (fun B1 => BdOk b ((wd.data.toList ++ (l.take i).flatMap spD) ++ [32]) B1) [] [] (by rfl) rfl Tryd.func16 rfl rfl (by kernel_rfl) (fun w1 h hh hd => bWriteByte b (wd.data.toList ++ (l.take i).flatMap spD) B 32 w1 hB hh hd (by have := part_len hq i; rw [List.length_append, ba_len]; omega))) ?_
      rintro B2 kB2
      refine CfgL.done rfl ?_
      refine Conv.cfg (Γ' := [(7, [], .int .u32 ((l.getD i 0) : Int)), (12, [], .int .i64 (i : Int)), (11, [], .int .i64 (l.length : Int)), (10, [], .slice (some ⟨sb, off, none⟩) l.length cap), (5, [], .pointer (some ⟨b, 0, none⟩))]) (Conv.mk (by kernel_rfl)) ?_
      refine Cfg.begL rfl ?_
      refine CfgL.pure 2 [] (some [5, 10, 11, 12, 18]) (Γ' := [(18, [], .int .u64 ((l.getD i 0) : Int)), (12, [], .int .i64 (i : Int)), (11, [], .int .i64 (l.length : Int)), (10, [], .slice (some ⟨sb, off, none⟩) l.length cap), (5, [], .pointer (some ⟨b, 0, none⟩))]) (nd := (fun _ => [((0 : Int) ≤ ((l.getD i 0) : Int) ∧ ((l.getD i 0) : Int) ≤ 18446744073709551615)])) (by kernel_rfl) (fun _ => by kernel_rfl) ⟨(by omega), trivial⟩ ?_
      refine CfgL.eff (o := _) rfl (by kernel_rfl) (by kernel_rfl) (Eff.callA (vs := [.int .u64 ((l.getD i 0) : Int), .int .i64 10]) (.string (tx (Lib.decDigits (l.getD i 0)))) rfl Tryd.func22 rfl rfl (by kernel_rfl) (fun w1 h => uFmt (l.getD i 0) t0 fr0 w1 hv (h.hasR (fun e he => by rw [List.mem_singleton.1 he]; exact List.mem_cons_self ..)))) ?_
      rintro ⟨⟩ -
      refine CfgL.eff (o := _) rfl (by kernel_rfl) (by kernel_rfl) (Eff.callH (vs := [.pointer (some ⟨b, 0, none⟩), .string (tx (Lib.decDigits (l.getD i 0)))]) (fun _ => (.tuple #[.int .i64 ((tx (Lib.decDigits (l.getD i 0))).size : Int), .nilIface] : Value)) (bl 46 5 b ((wd.data.toList ++ (l.take i).flatMap spD) ++ [32]) B2) (fun B1 => bl 46 5 b (((wd.data.toList ++ (l.take i).flatMap spD) ++ [32]) ++ (tx (Lib.decDigits (l.getD i 0))).data.toList) B1) (fun B1 => BdOk b (((wd.data.toList ++ (l.take i).flatMap spD) ++ [32]) ++ (tx (Lib.decDigits (l.getD i 0))).data.toList) B1) [] [] (by rfl) rfl Tryd.func15 rfl rfl (by kernel_rfl) (fun w1 h hh hd => bWriteString b ((wd.data.toList ++ (l.take i).flatMap spD) ++ [32]) B2 (tx (Lib.decDigits (l.getD i 0))) w1 kB2 hh hd (by have := part_len hq i; have := dlen hv; rw [List.length_append, List.length_append, ba_len, tx_size]; simp only [List.length_cons, List.length_nil]; omega))) ?_
      rintro B4 kB4
      refine CfgL.done rfl ?_
      refine Conv.cfg (Γ' := [(12, [], .int .i64 (i : Int)), (11, [], .int .i64 (l.length : Int)), (10, [], .slice (some ⟨sb, off, none⟩) l.length cap), (5, [], .pointer (some ⟨b, 0, none⟩))]) (Conv.mk (by kernel_rfl)) ?_
      refine Cfg.reg rfl [5, 10, 11, 12] [] (Γ' := [(12, [], .int .i64 ((i : Int) + 1)), (11, [], .int .i64 (l.length : Int)), (10, [], .slice (some ⟨sb, off, none⟩) l.length cap), (5, [], .pointer (some ⟨b, 0, none⟩))]) (nd := (fun _ => [((-9223372036854775808 : Int) ≤ ((i : Int) + 1) ∧ ((i : Int) + 1) ≤ 9223372036854775807)])) (fun _ => by kernel_rfl) ⟨(by omega), trivial⟩ ?_
      have hcs2 : (((wd.data.toList ++ (l.take i).flatMap spD) ++ [32]) ++ (tx (Lib.decDigits (l.getD i 0))).data.toList) = (wd.data.toList ++ (l.take (i + 1)).flatMap spD) := by rw [flat_next (by omega), tx_list, List.append_assoc, List.append_assoc]
      refine Cfg.setO (O' := ([] ++ (bl 46 5 b (wd.data.toList ++ (l.take (i + 1)).flatMap spD) B4 ++ []))) (congrArg (fun (xq : List UInt8) => (([] ++ (bl 46 5 b xq B4 ++ [])) : List (Nat × Obj))) (hcs2)) ?_
      refine Cfg.again rfl (i + 1, B4) ⟨by omega, hcs2 ▸ kB4⟩ (by show l.length - (i + 1) < l.length - i; omega) (Conv.mk (by kernel_rfl)) (List.Sublist.refl _)
    · have c1 : (¬ ((i : Int) < (l.length : Int))) := (of_decide_eq_false c1r)
      obtain rfl : i = l.length := by omega
      refine Cfg.setO (O' := ([] ++ (bl 46 5 b (wd.data.toList ++ l.flatMap spD) B ++ []))) (congrArg (fun (xq : List UInt8) => (([] ++ (bl 46 5 b xq B ++ [])) : List (Nat × Obj))) (by rw [List.take_length])) ?_
      rw [List.take_length] at hB
      refine Conv.cfg (Γ' := [(5, [], .pointer (some ⟨b, 0, none⟩))]) (Conv.mk (by kernel_rfl)) ?_
      refine Cfg.begL rfl ?_
      refine CfgL.eff (o := _) rfl (by kernel_rfl) (by kernel_rfl) (Eff.callH (vs := [.pointer (some ⟨b, 0, none⟩)]) (fun _ : Unit => (.string (tx (wd.data.toList ++ l.flatMap spD)) : Value)) (bl 46 5 b (wd.data.toList ++ l.flatMap spD) B) (fun _ => []) (fun _ => True) [] [] (by rfl) rfl Tryd.func17 rfl rfl (by kernel_rfl) (fun w1 h hh hd => bString b (wd.data.toList ++ l.flatMap spD) B w1 hB hh hd (by have := part_len hq l.length; rw [List.take_length] at this; rw [List.length_append, ba_len]; omega))) ?_
      rintro ⟨⟩ -
      refine CfgL.pure 1 [] (some [4]) (Γ' := [(4, [], .string (tx (wd.data.toList ++ l.flatMap spD)))]) (nd := (fun _ => [])) (by kernel_rfl) (fun _ => by kernel_rfl) trivial ?_
      refine CfgL.done rfl ?_
      refine Cfg.ret rfl (rs := [.tmp 4]) rfl [.string (tx (wd.data.toList ++ l.flatMap spD))] ⟨by kernel_rfl, trivial⟩ (fun w1 hp => ?_)
      exact ⟨rfl, hp.ext⟩

set_option maxRecDepth 100000 in
theorem sLine (s : Stp) (t0 : TypeId) (fr0 : Nat × Nat) (w : World) (hk : -9223372036854775808 ≤ s.1 ∧ s.1 ≤ 9223372036854775807) (hf : Fit s) (hR : Has w [(0, .cells pv t0 fr0)]) :
    Calls Tryd.prog 6 #[.agg #[.int .i64 s.1, .int .u32 (s.2.1 : Int), .int .u32 (s.2.2.1 : Int), .int .u32 (s.2.2.2.1 : Int), .int .u32 (s.2.2.2.2.1 : Int), .int .u32 (s.2.2.2.2.2 : Int)]] w fun e w' => e = .returned (.tuple #[.string (tx (lineR s)), .int .i64 (lineE s)]) ∧ Ext [] w w' := by
  obtain ⟨f1, f2, f3, f4, f5⟩ := hf
  refine enter (vs := [.agg #[.int .i64 s.1, .int .u32 (s.2.1 : Int), .int .u32 (s.2.2.1 : Int), .int .u32 (s.2.2.2.1 : Int), .int .u32 (s.2.2.2.2.1 : Int), .int .u32 (s.2.2.2.2.2 : Int)]]) [] [(0, .cells pv t0 fr0)] [] Tryd.func6 rfl (by kernel_rfl) (HP.ofHas hR) ?_
  refine Cfg.begL rfl ?_
  refine CfgL.eff (o := _) rfl (by kernel_rfl) (by kernel_rfl) (Eff.box (v := .agg #[.int .i64 s.1, .int .u32 (s.2.1 : Int), .int .u32 (s.2.2.1 : Int), .int .u32 (s.2.2.2.1 : Int), .int .u32 (s.2.2.2.2.1 : Int), .int .u32 (s.2.2.2.2.2 : Int)]) rfl (by kernel_rfl)) ?_
  rintro ab ⟨hab, nab⟩
  refine CfgL.pure 2 [] (some [1]) (Γ' := [(1, [], .pointer (some ⟨ab, 0, none⟩))]) (nd := (fun _ => [])) (by kernel_rfl) (fun _ => by kernel_rfl) trivial ?_
  refine CfgL.done rfl ?_
  refine Cfg.reg rfl [1, 12] [(0, false, none), (0, false, some (.int .i64 s.1)), (0, false, none), (0, false, none), (0, false, none), (0, false, some (.int .i64 s.1))] (Γ' := [(12, [], .bool ((decide (s.1 < (1 : Int))) || (decide (s.1 > (4 : Int))))), (1, [], .pointer (some ⟨ab, 0, none⟩))]) (nd := (fun S => [(∀ w1, S w1 → w1.cell? ⟨ab, 0, none⟩ = some (.int .i64 s.1)), ((.bool (decide (s.1 < (1 : Int))) : Value) = .bool false → (∀ w1, S w1 → w1.cell? ⟨ab, 0, none⟩ = some (.int .i64 s.1)))])) (fun _ => by kernel_rfl) ⟨(fun w1 h => h.ocell 0 rfl rfl), (fun g0 => have q0 : (¬ (s.1 < (1 : Int))) := (of_decide_eq_false (boolV g0)); (fun w1 h => h.ocell 0 rfl rfl)), trivial⟩ ?_
  refine Cfg.cond rfl (b := ((decide (s.1 < (1 : Int))) || (decide (s.1 > (4 : Int))))) (by kernel_rfl) (fun c1r => ?_) (fun c1r => ?_)
  · have c1 : ((s.1 < (1 : Int)) ∨ (s.1 > (4 : Int))) := ((orT c1r).elim (fun h => Or.inl (of_decide_eq_true h)) (fun h => Or.inr (of_decide_eq_true h)))
    refine Cfg.reg rfl [2, 3] [] (Γ' := [(3, [], .int .i64 11), (2, [], .string ⟨#[]⟩)]) (nd := (fun _ => [])) (fun _ => by kernel_rfl) trivial ?_
    refine Cfg.ret rfl (rs := [.tmp 2, .tmp 3]) rfl [.string ⟨#[]⟩, .int .i64 11] ⟨by kernel_rfl, by kernel_rfl, trivial⟩ (fun w1 hp => ?_)
    exact ⟨by rw [lineR_bad (by rw [lineE_out c1]; decide), lineE_out c1]; rfl, hp.ext⟩
  · have c1 : ((¬ (s.1 < (1 : Int))) ∧ (¬ (s.1 > (4 : Int)))) := ⟨(of_decide_eq_false (orF1 c1r)), (of_decide_eq_false (orF2 c1r))⟩
    refine Cfg.begA rfl (by kernel_rfl) [(ab, .cells #[.int .i64 s.1, .int .u32 (s.2.1 : Int), .int .u32 (s.2.2.1 : Int), .int .u32 (s.2.2.2.1 : Int), .int .u32 (s.2.2.2.2.1 : Int), .int .u32 (s.2.2.2.2.2 : Int)] 26 (0, 0))] ?_
    refine CfgA.pure [1, 2] [(0, false, none), (0, false, some (.int .i64 s.1))] (some [1, 15]) (l' := #[false, true, true, false, false]) (by kernel_rfl) (by kernel_rfl) (.cons_cons _ .slnil) 3 rfl (Γ' := [(15, [], .int .i64 s.1), (1, [], .pointer (some ⟨ab, 0, none⟩))]) (nd := (fun S => [(∀ w1, S w1 → w1.cell? ⟨ab, 0, none⟩ = some (.int .i64 s.1))])) (fun _ => by kernel_rfl) ⟨(fun w1 h => h.ocell 0 rfl rfl), trivial⟩ ?_
    refine CfgA.eff 0 (o := _) rfl (by kernel_rfl) (fuel' := 2) rfl (by kernel_rfl) (by kernel_rfl) (Eff.callA (vs := []) (.agg wordsV) rfl Tryd.func11 rfl rfl (by kernel_rfl) (fun w1 _ => sWords w1)) (fun _ _ => (.cons_cons _ .slnil)) ?_
    rintro ⟨⟩ -
    refine CfgA.pure [3, 4] [(0, false, some (.string (tx (wdK s.1))))] (some [1, 4]) (l' := #[true, true, true, true, true]) (by kernel_rfl) (by kernel_rfl) (.cons_cons _ .slnil) 0 rfl (Γ' := [(4, [], .string (tx (wdK s.1))), (1, [], .pointer (some ⟨ab, 0, none⟩))]) (nd := (fun _ => [(0 ≤ s.1 ∧ s.1 < (5 : Int)), ((wordsV)[(s.1).toNat]? = some (.string (tx (wdK s.1))))])) (fun _ => by kernel_rfl) ⟨(by omega), (words_at (by omega) (by omega)), trivial⟩ ?_
    refine CfgA.done (by kernel_rfl) ?_
    refine Cfg.reg rfl [1, 4, 19] [(0, false, none), (0, false, some (.int .i64 s.1))] (Γ' := [(19, [], .bool (s.1 == (3 : Int))), (4, [], .string (tx (wdK s.1))), (1, [], .pointer (some ⟨ab, 0, none⟩))]) (nd := (fun S => [(∀ w1, S w1 → w1.cell? ⟨ab, 0, none⟩ = some (.int .i64 s.1))])) (fun _ => by kernel_rfl) ⟨(fun w1 h => h.ocell 0 rfl rfl), trivial⟩ ?_
    refine Cfg.cond rfl (b := (s.1 == (3 : Int))) (by kernel_rfl) (fun c2r => ?_) (fun c2r => ?_)
    · have c2 : (s.1 = (3 : Int)) := (beq_iff_eq.1 c2r)
      refine Cfg.begL rfl ?_
      refine CfgL.pure 11 [(0, false, none), (0, false, none), (0, false, some (.int .u32 (s.2.1 : Int))), (0, false, none), (0, false, some (.int .u32 (s.2.2.1 : Int))), (0, false, none), (0, false, some (.int .u32 (s.2.2.2.1 : Int))), (0, false, none), (0, false, some (.int .u32 (s.2.2.2.2.1 : Int))), (0, false, none), (0, false, some (.int .u32 (s.2.2.2.2.2 : Int)))] (some [20, 22, 24, 26, 28, 30]) (Γ' := [(30, [], .int .u32 (s.2.2.2.2.2 : Int)), (28, [], .int .u32 (s.2.2.2.2.1 : Int)), (26, [], .int .u32 (s.2.2.2.1 : Int)), (24, [], .int .u32 (s.2.2.1 : Int)), (22, [], .int .u32 (s.2.1 : Int)), (20, [], .string (tx (wdK s.1)))]) (nd := (fun S => [(∀ w1, S w1 → w1.cell? ⟨ab, 1, none⟩ = some (.int .u32 (s.2.1 : Int))), (∀ w1, S w1 → w1.cell? ⟨ab, 2, none⟩ = some (.int .u32 (s.2.2.1 : Int))), (∀ w1, S w1 → w1.cell? ⟨ab, 3, none⟩ = some (.int .u32 (s.2.2.2.1 : Int))), (∀ w1, S w1 → w1.cell? ⟨ab, 4, none⟩ = some (.int .u32 (s.2.2.2.2.1 : Int))), (∀ w1, S w1 → w1.cell? ⟨ab, 5, none⟩ = some (.int .u32 (s.2.2.2.2.2 : Int)))])) (by kernel_rfl) (fun _ => by kernel_rfl) ⟨(fun w1 h => h.ocell 0 rfl rfl), (fun w1 h => h.ocell 0 rfl rfl), (fun w1 h => h.ocell 0 rfl rfl), (fun w1 h => h.ocell 0 rfl rfl), (fun w1 h => h.ocell 0 rfl rfl), trivial⟩ ?_
      refine CfgL.eff (o := _) rfl (by kernel_rfl) (by kernel_rfl) (Eff.buildSlice (e := 24) (cells := #[.int .u32 (s.2.1 : Int), .int .u32 (s.2.2.1 : Int), .int .u32 (s.2.2.2.1 : Int), .int .u32 (s.2.2.2.2.1 : Int), .int .u32 (s.2.2.2.2.2 : Int)]) (parts := #[(0, .int .u32 (s.2.1 : Int)), (1, .int .u32 (s.2.2.1 : Int)), (2, .int .u32 (s.2.2.2.1 : Int)), (3, .int .u32 (s.2.2.2.2.1 : Int)), (4, .int .u32 (s.2.2.2.2.2 : Int))]) rfl (by kernel_rfl) (fun _ => by kernel_rfl)) ?_
      rintro nl ⟨hnl, nnl⟩
      refine CfgL.eff (o := _) rfl (by kernel_rfl) (by kernel_rfl) (Eff.callA (vs := [.string (tx (wdK s.1)), .slice (some ⟨nl, 0, none⟩) 5 5]) (.string (tx (joinT (tx (wdK s.1)).data.toList [s.2.1, s.2.2.1, s.2.2.2.1, s.2.2.2.2.1, s.2.2.2.2.2]))) rfl Tryd.func13 rfl rfl (by kernel_rfl) (fun w1 h => sJoin (tx (wdK s.1)) (some ⟨nl, 0, none⟩) 5 [s.2.1, s.2.2.1, s.2.2.2.1, s.2.2.2.2.1, s.2.2.2.2.2] [(nl, .cells (nums [s.2.1, s.2.2.1, s.2.2.2.1, s.2.2.2.2.1, s.2.2.2.2.2]) 24 (0, 0))] t0 fr0 w1 (inS_nums nl 24 (0, 0) [s.2.1, s.2.2.1, s.2.2.2.1, s.2.2.2.2.1, s.2.2.2.2.2]) (fun e he => by rcases List.mem_cons.1 he with rfl | he; exact h.ro _ (List.mem_singleton.2 rfl); rw [List.mem_singleton.1 he]; exact h.own (nl, _) (List.mem_of_getElem? (i := 0) rfl)) (by simp only [List.mem_cons, List.not_mem_nil, or_false]; omega) (by simp only [List.length_cons, List.length_nil]; omega) (by rw [tx_size]; have := (wdK_nb (k := s.1)).2.2; omega))) ?_
      rintro ⟨⟩ -
      refine CfgL.pure 2 [] (some [2, 3]) (Γ' := [(3, [], .int .i64 0), (2, [], .string (tx (joinT (tx (wdK s.1)).data.toList [s.2.1, s.2.2.1, s.2.2.2.1, s.2.2.2.2.1, s.2.2.2.2.2])))]) (nd := (fun _ => [])) (by kernel_rfl) (fun _ => by kernel_rfl) trivial ?_
      refine CfgL.done rfl ?_
      refine Cfg.ret rfl (rs := [.tmp 2, .tmp 3]) rfl [.string (tx (joinT (tx (wdK s.1)).data.toList [s.2.1, s.2.2.1, s.2.2.2.1, s.2.2.2.2.1, s.2.2.2.2.2])), .int .i64 0] ⟨by kernel_rfl, by kernel_rfl, trivial⟩ (fun w1 hp => ?_)
      have h3 : s.1 = 3 := c2
      exact ⟨by rw [lineR_ok (lineE_three h3), lineE_three h3, tx_list, lineT_eq]; unfold numsOf; rw [if_pos h3]; rfl, hp.ext⟩
    · have c2 : (s.1 ≠ (3 : Int)) := (beq_eq_false_iff_ne.1 c2r)
      refine Cfg.reg rfl [1, 4, 50] [(0, false, none), (0, false, some (.int .u32 (s.2.2.1 : Int))), (0, false, none), (0, false, none), (0, false, none), (0, false, some (.int .u32 (s.2.2.2.1 : Int))), (0, false, none), (0, false, none), (0, false, none), (0, false, none), (0, false, some (.int .u32 (s.2.2.2.2.1 : Int))), (0, false, none), (0, false, none), (0, false, none), (0, false, none), (0, false, some (.int .u32 (s.2.2.2.2.2 : Int)))] (Γ' := [(50, [], .bool (((((s.2.2.1 : Int) != (0 : Int)) || ((s.2.2.2.1 : Int) != (0 : Int))) || ((s.2.2.2.2.1 : Int) != (0 : Int))) || ((s.2.2.2.2.2 : Int) != (0 : Int)))), (4, [], .string (tx (wdK s.1))), (1, [], .pointer (some ⟨ab, 0, none⟩))]) (nd := (fun S => [(∀ w1, S w1 → w1.cell? ⟨ab, 2, none⟩ = some (.int .u32 (s.2.2.1 : Int))), ((.bool ((s.2.2.1 : Int) != (0 : Int)) : Value) = .bool false → (∀ w1, S w1 → w1.cell? ⟨ab, 3, none⟩ = some (.int .u32 (s.2.2.2.1 : Int)))), ((.bool (((s.2.2.1 : Int) != (0 : Int)) || ((s.2.2.2.1 : Int) != (0 : Int))) : Value) = .bool false → (∀ w1, S w1 → w1.cell? ⟨ab, 4, none⟩ = some (.int .u32 (s.2.2.2.2.1 : Int)))), ((.bool ((((s.2.2.1 : Int) != (0 : Int)) || ((s.2.2.2.1 : Int) != (0 : Int))) || ((s.2.2.2.2.1 : Int) != (0 : Int))) : Value) = .bool false → (∀ w1, S w1 → w1.cell? ⟨ab, 5, none⟩ = some (.int .u32 (s.2.2.2.2.2 : Int))))])) (fun _ => by kernel_rfl) ⟨(fun w1 h => h.ocell 0 rfl rfl), (fun g0 => have q0 : ((s.2.2.1 : Int) = (0 : Int)) := (bne_eq_false_iff_eq.1 (boolV g0)); (fun w1 h => h.ocell 0 rfl rfl)), (fun g0 => have q0 : (((s.2.2.1 : Int) = (0 : Int)) ∧ ((s.2.2.2.1 : Int) = (0 : Int))) := ⟨(bne_eq_false_iff_eq.1 (orF1 (boolV g0))), (bne_eq_false_iff_eq.1 (orF2 (boolV g0)))⟩; (fun w1 h => h.ocell 0 rfl rfl)), (fun g0 => have q0 : ((((s.2.2.1 : Int) = (0 : Int)) ∧ ((s.2.2.2.1 : Int) = (0 : Int))) ∧ ((s.2.2.2.2.1 : Int) = (0 : Int))) := ⟨⟨(bne_eq_false_iff_eq.1 (orF1 (orF1 (boolV g0)))), (bne_eq_false_iff_eq.1 (orF2 (orF1 (boolV g0))))⟩, (bne_eq_false_iff_eq.1 (orF2 (boolV g0)))⟩; (fun w1 h => h.ocell 0 rfl rfl)), trivial⟩ ?_
      refine Cfg.cond rfl (b := (((((s.2.2.1 : Int) != (0 : Int)) || ((s.2.2.2.1 : Int) != (0 : Int))) || ((s.2.2.2.2.1 : Int) != (0 : Int))) || ((s.2.2.2.2.2 : Int) != (0 : Int)))) (by kernel_rfl) (fun c3r => ?_) (fun c3r => ?_)
      · have c3 : (((((s.2.2.1 : Int) ≠ (0 : Int)) ∨ ((s.2.2.2.1 : Int) ≠ (0 : Int))) ∨ ((s.2.2.2.2.1 : Int) ≠ (0 : Int))) ∨ ((s.2.2.2.2.2 : Int) ≠ (0 : Int))) := ((orT c3r).elim (fun h => Or.inl ((orT h).elim (fun h => Or.inl ((orT h).elim (fun h => Or.inl (bne_iff_ne.1 h)) (fun h => Or.inr (bne_iff_ne.1 h)))) (fun h => Or.inr (bne_iff_ne.1 h)))) (fun h => Or.inr (bne_iff_ne.1 h)))
        refine Cfg.reg rfl [2, 3] [] (Γ' := [(3, [], .int .i64 4), (2, [], .string ⟨#[]⟩)]) (nd := (fun _ => [])) (fun _ => by kernel_rfl) trivial ?_
        refine Cfg.ret rfl (rs := [.tmp 2, .tmp 3]) rfl [.string ⟨#[]⟩, .int .i64 4] ⟨by kernel_rfl, by kernel_rfl, trivial⟩ (fun w1 hp => ?_)
        have h3 : s.1 ≠ 3 := c2
        have hn : ¬ bare s := by unfold bare; omega
        have he := lineE_form (by omega) h3 hn
        exact ⟨by rw [lineR_bad (by rw [he]; decide), he]; rfl, hp.ext⟩
      · have c3 : (((((s.2.2.1 : Int) = (0 : Int)) ∧ ((s.2.2.2.1 : Int) = (0 : Int))) ∧ ((s.2.2.2.2.1 : Int) = (0 : Int))) ∧ ((s.2.2.2.2.2 : Int) = (0 : Int))) := ⟨⟨⟨(bne_eq_false_iff_eq.1 (orF1 (orF1 (orF1 c3r)))), (bne_eq_false_iff_eq.1 (orF2 (orF1 (orF1 c3r))))⟩, (bne_eq_false_iff_eq.1 (orF2 (orF1 c3r)))⟩, (bne_eq_false_iff_eq.1 (orF2 c3r))⟩
        refine Cfg.begL rfl ?_
        refine CfgL.pure 3 [(0, false, none), (0, false, none), (0, false, some (.int .u32 (s.2.1 : Int)))] (some [51, 53]) (Γ' := [(53, [], .int .u32 (s.2.1 : Int)), (51, [], .string (tx (wdK s.1)))]) (nd := (fun S => [(∀ w1, S w1 → w1.cell? ⟨ab, 1, none⟩ = some (.int .u32 (s.2.1 : Int)))])) (by kernel_rfl) (fun _ => by kernel_rfl) ⟨(fun w1 h => h.ocell 0 rfl rfl), trivial⟩ ?_
        refine CfgL.eff (o := _) rfl (by kernel_rfl) (by kernel_rfl) (Eff.buildSlice (e := 24) (cells := #[.int .u32 (s.2.1 : Int)]) (parts := #[(0, .int .u32 (s.2.1 : Int))]) rfl (by kernel_rfl) (fun _ => by kernel_rfl)) ?_
        rintro nl ⟨hnl, nnl⟩
        refine CfgL.eff (o := _) rfl (by kernel_rfl) (by kernel_rfl) (Eff.callA (vs := [.string (tx (wdK s.1)), .slice (some ⟨nl, 0, none⟩) 1 1]) (.string (tx (joinT (tx (wdK s.1)).data.toList [s.2.1]))) rfl Tryd.func13 rfl rfl (by kernel_rfl) (fun w1 h => sJoin (tx (wdK s.1)) (some ⟨nl, 0, none⟩) 1 [s.2.1] [(nl, .cells (nums [s.2.1]) 24 (0, 0))] t0 fr0 w1 (inS_nums nl 24 (0, 0) [s.2.1]) (fun e he => by rcases List.mem_cons.1 he with rfl | he; exact h.ro _ (List.mem_singleton.2 rfl); rw [List.mem_singleton.1 he]; exact h.own (nl, _) (List.mem_of_getElem? (i := 0) rfl)) (by simp only [List.mem_cons, List.not_mem_nil, or_false]; omega) (by simp only [List.length_cons, List.length_nil]; omega) (by rw [tx_size]; have := (wdK_nb (k := s.1)).2.2; omega))) ?_
        rintro ⟨⟩ -
        refine CfgL.pure 2 [] (some [2, 3]) (Γ' := [(3, [], .int .i64 0), (2, [], .string (tx (joinT (tx (wdK s.1)).data.toList [s.2.1])))]) (nd := (fun _ => [])) (by kernel_rfl) (fun _ => by kernel_rfl) trivial ?_
        refine CfgL.done rfl ?_
        refine Cfg.ret rfl (rs := [.tmp 2, .tmp 3]) rfl [.string (tx (joinT (tx (wdK s.1)).data.toList [s.2.1])), .int .i64 0] ⟨by kernel_rfl, by kernel_rfl, trivial⟩ (fun w1 hp => ?_)
        have h3 : s.1 ≠ 3 := c2
        have hn : bare s := by unfold bare; omega
        have he := lineE_bare (by omega) hn
        exact ⟨by rw [lineR_ok he, he, tx_list, lineT_eq]; unfold numsOf; rw [if_neg h3]; rfl, hp.ext⟩

set_option maxRecDepth 100000 in
theorem rDec (n : Nat) (w : World) (hn : n ≤ 4294967295) :
    Calls Tryd.prog 14 #[.int .u32 (n : Int)] w fun e w' => e = .returned (.string (tx (Lib.decDigits n))) ∧ Ext [] w w' := by
  refine enter (vs := [.int .u32 (n : Int)]) [] [] [] Tryd.func14 rfl (by kernel_rfl) (HP.start w) ?_
  refine Cfg.reg rfl [0] [] (Γ' := [(0, [], .int .u32 (n : Int))]) (nd := (fun _ => [])) (fun _ => by kernel_rfl) trivial ?_
  refine Cfg.reg rfl [0, 3] [] (Γ' := [(3, [], .string ⟨#[]⟩), (0, [], .int .u32 (n : Int))]) (nd := (fun _ => [])) (fun _ => by kernel_rfl) trivial ?_
  refine Cfg.setG (Γ' := [(3, [], .string (tx [])), (0, [], .int .u32 (n : Int))]) (congrArg (fun (xq : ByteArray) => ([(3, [], .string xq), (0, [], .int .u32 (n : Int))] : Env)) (rfl)) ?_
  refine Cfg.loop rfl (ι := Nat × List UInt8) (fun (xz : Nat × List UInt8) => match xz with | (m, s) => [(3, [], .string (tx s)), (0, [], .int .u32 (m : Int))]) (fun (xz : Nat × List UInt8) => match xz with | (m, s) => []) (fun (xz : Nat × List UInt8) => match xz with | (m, s) => (m ≤ 4294967295) ∧ (Lib.decDigits n = Lib.decDigits m ++ s) ∧ (s.length + m ≤ 4294967295)) (fun (xz : Nat × List UInt8) => match xz with | (m, s) => m) (n, []) ?_ (Conv.mk (by kernel_rfl)) .slnil ?_
  · exact ⟨hn, (List.append_nil _).symm, by simpa using hn⟩
  · rintro ⟨m, s⟩ ⟨hm, hd, hs⟩
    refine Cfg.begL rfl ?_
    refine CfgL.pure 4 [] (some [0, 3, 7]) (Γ' := [(7, [], .int .u8 (((48 + ((m : Int) % 10)) % 4294967296) % 256)), (3, [], .string (tx s)), (0, [], .int .u32 (m : Int))]) (nd := (fun _ => [(0 ≤ (m : Int) ∧ 0 < (10 : Int))])) (by kernel_rfl) (fun _ => by kernel_rfl) ⟨(by omega), trivial⟩ ?_
    refine CfgL.eff (o := _) rfl (by kernel_rfl) (by kernel_rfl) (Eff.buildSlice (e := 5) (cells := #[.int .u8 (((48 + ((m : Int) % 10)) % 4294967296) % 256)]) (parts := #[(0, .int .u8 (((48 + ((m : Int) % 10)) % 4294967296) % 256))]) rfl (by kernel_rfl) (fun _ => by kernel_rfl)) ?_
    rintro b ⟨hb, nb⟩
    refine CfgL.pure 4 [(0, false, some (.string (tx [(UInt8.ofNat (48 + m % 10))])))] (some [0, 3]) (Γ' := [(3, [], .string ((tx [(UInt8.ofNat (48 + m % 10))]) ++ (tx s))), (0, [], .int .u32 (m : Int))]) (nd := (fun S => [(∀ w1, S w1 → (Conv.bytesToString (.slice (some ⟨b, 0, none⟩) 1 1)).run Tryd.prog w1 = .ok (.string (tx [(UInt8.ofNat (48 + m % 10))])) w1), ((tx [(UInt8.ofNat (48 + m % 10))]).size + (tx s).size ≤ 9223372036854775807)])) (by kernel_rfl) (fun _ => by kernel_rfl) ⟨(fun w1 h => bytes_str (l := [(UInt8.ofNat (48 + m % 10))]) rfl (fun j hj => by have hj0 : j = 0 := (by omega); subst hj0; exact h.ocell 0 rfl (by show some (Value.int .u8 _) = some (Value.int .u8 _); rw [show ([(UInt8.ofNat (48 + m % 10))].getD 0 0).toNat = 48 + m % 10 from ofN (Nat.mod_lt _ (by decide))]; congr 2; omega))), (by rw [tx_size, tx_size]; simp only [List.length_cons, List.length_nil]; omega), trivial⟩ ?_
    refine CfgL.done rfl ?_
    refine Cfg.reg rfl [0, 3] [] (Γ' := [(0, [], .int .u32 ((m : Int) / 10)), (3, [], .string ((tx [(UInt8.ofNat (48 + m % 10))]) ++ (tx s)))]) (nd := (fun _ => [(0 ≤ (m : Int) ∧ (m : Int) ≤ 4294967295 ∧ 0 < (10 : Int))])) (fun _ => by kernel_rfl) ⟨(by omega), trivial⟩ ?_
    refine Cfg.reg rfl [0, 3, 15] [] (Γ' := [(15, [], .bool (((m : Int) / 10) == (0 : Int))), (0, [], .int .u32 ((m : Int) / 10)), (3, [], .string ((tx [(UInt8.ofNat (48 + m % 10))]) ++ (tx s)))]) (nd := (fun _ => [])) (fun _ => by kernel_rfl) trivial ?_
    refine Cfg.cond rfl (b := (((m : Int) / 10) == (0 : Int))) (by kernel_rfl) (fun c1r => ?_) (fun c1r => ?_)
    · have c1 : (((m : Int) / 10) = (0 : Int)) := (beq_iff_eq.1 c1r)
      refine Cfg.reg rfl [2] [] (Γ' := [(2, [], .string ((tx [(UInt8.ofNat (48 + m % 10))]) ++ (tx s)))]) (nd := (fun _ => [])) (fun _ => by kernel_rfl) trivial ?_
      refine Cfg.ret rfl (rs := [.tmp 2]) rfl [.string ((tx [(UInt8.ofNat (48 + m % 10))]) ++ (tx s))] ⟨by kernel_rfl, trivial⟩ (fun w1 hp => ?_)
      have hm10 : m < 10 := by omega
      exact ⟨by rw [tx_app, hd, Lib.decDigits_one hm10, Nat.mod_eq_of_lt hm10]; rfl, hp.ext⟩
    · have c1 : (((m : Int) / 10) ≠ (0 : Int)) := (beq_eq_false_iff_ne.1 c1r)
      have hm10 : ¬ m < 10 := by omega
      have hd2 : Lib.decDigits m = Lib.decDigits (m / 10) ++ [(UInt8.ofNat (48 + m % 10))] := by rw [Lib.decDigits, dif_neg hm10]
      refine Cfg.setG (Γ' := [(15, [], .bool (((m : Int) / 10) == (0 : Int))), (0, [], .int .u32 ((m : Int) / 10)), (3, [], .string (tx ((UInt8.ofNat (48 + m % 10)) :: s)))]) (congrArg (fun (xq : ByteArray) => ([(15, [], .bool (((m : Int) / 10) == (0 : Int))), (0, [], .int .u32 ((m : Int) / 10)), (3, [], .string xq)] : Env)) (by rw [tx_app]; rfl)) ?_
      refine Cfg.setG (Γ' := [(15, [], .bool (((m : Int) / 10) == (0 : Int))), (0, [], .int .u32 (((m / 10) : Nat) : Int)), (3, [], .string (tx ((UInt8.ofNat (48 + m % 10)) :: s)))]) (congrArg (fun (xq : Int) => ([(15, [], .bool (((m : Int) / 10) == (0 : Int))), (0, [], .int .u32 xq), (3, [], .string (tx ((UInt8.ofNat (48 + m % 10)) :: s)))] : Env)) (by omega)) ?_
      refine Cfg.again rfl (m / 10, (UInt8.ofNat (48 + m % 10)) :: s) ⟨by omega, by rw [hd, hd2, List.append_assoc]; rfl, by rw [List.length_cons]; omega⟩ (by show m / 10 < m; omega) (Conv.mk (by kernel_rfl)) (.cons _ .slnil)

set_option maxRecDepth 100000 in
theorem rLine (s : Stp) (t0 : TypeId) (fr0 : Nat × Nat) (w : World) (hk : -9223372036854775808 ≤ s.1 ∧ s.1 ≤ 9223372036854775807) (hf : Fit s) (hR : Has w [(0, .cells pv t0 fr0)]) :
    Calls Tryd.prog 7 #[.agg #[.int .i64 s.1, .int .u32 (s.2.1 : Int), .int .u32 (s.2.2.1 : Int), .int .u32 (s.2.2.2.1 : Int), .int .u32 (s.2.2.2.2.1 : Int), .int .u32 (s.2.2.2.2.2 : Int)]] w fun e w' => e = .returned (.tuple #[.string (tx (lineR s)), .int .i64 (lineE s)]) ∧ Ext [] w w' := by
  obtain ⟨f1, f2, f3, f4, f5⟩ := hf
  have d1 := dlen f1
  have d2 := dlen f2
  have d3 := dlen f3
  have d4 := dlen f4
  have d5 := dlen f5
  refine enter (vs := [.agg #[.int .i64 s.1, .int .u32 (s.2.1 : Int), .int .u32 (s.2.2.1 : Int), .int .u32 (s.2.2.2.1 : Int), .int .u32 (s.2.2.2.2.1 : Int), .int .u32 (s.2.2.2.2.2 : Int)]]) [] [(0, .cells pv t0 fr0)] [] Tryd.func7 rfl (by kernel_rfl) (HP.ofHas hR) ?_
  refine Cfg.begL rfl ?_
  refine CfgL.eff (o := _) rfl (by kernel_rfl) (by kernel_rfl) (Eff.box (v := .agg #[.int .i64 s.1, .int .u32 (s.2.1 : Int), .int .u32 (s.2.2.1 : Int), .int .u32 (s.2.2.2.1 : Int), .int .u32 (s.2.2.2.2.1 : Int), .int .u32 (s.2.2.2.2.2 : Int)]) rfl (by kernel_rfl)) ?_
  rintro ab ⟨hab, nab⟩
  refine CfgL.pure 2 [] (some [1]) (Γ' := [(1, [], .pointer (some ⟨ab, 0, none⟩))]) (nd := (fun _ => [])) (by kernel_rfl) (fun _ => by kernel_rfl) trivial ?_
  refine CfgL.done rfl ?_
  refine Cfg.reg rfl [1, 12] [(0, false, none), (0, false, some (.int .i64 s.1)), (0, false, none), (0, false, none), (0, false, none), (0, false, some (.int .i64 s.1))] (Γ' := [(12, [], .bool ((decide (s.1 < (1 : Int))) || (decide (s.1 > (4 : Int))))), (1, [], .pointer (some ⟨ab, 0, none⟩))]) (nd := (fun S => [(∀ w1, S w1 → w1.cell? ⟨ab, 0, none⟩ = some (.int .i64 s.1)), ((.bool (decide (s.1 < (1 : Int))) : Value) = .bool false → (∀ w1, S w1 → w1.cell? ⟨ab, 0, none⟩ = some (.int .i64 s.1)))])) (fun _ => by kernel_rfl) ⟨(fun w1 h => h.ocell 0 rfl rfl), (fun g0 => have q0 : (¬ (s.1 < (1 : Int))) := (of_decide_eq_false (boolV g0)); (fun w1 h => h.ocell 0 rfl rfl)), trivial⟩ ?_
  refine Cfg.cond rfl (b := ((decide (s.1 < (1 : Int))) || (decide (s.1 > (4 : Int))))) (by kernel_rfl) (fun c1r => ?_) (fun c1r => ?_)
  · have c1 : ((s.1 < (1 : Int)) ∨ (s.1 > (4 : Int))) := ((orT c1r).elim (fun h => Or.inl (of_decide_eq_true h)) (fun h => Or.inr (of_decide_eq_true h)))
    refine Cfg.reg rfl [2, 3] [] (Γ' := [(3, [], .int .i64 11), (2, [], .string ⟨#[]⟩)]) (nd := (fun _ => [])) (fun _ => by kernel_rfl) trivial ?_
    refine Cfg.ret rfl (rs := [.tmp 2, .tmp 3]) rfl [.string ⟨#[]⟩, .int .i64 11] ⟨by kernel_rfl, by kernel_rfl, trivial⟩ (fun w1 hp => ?_)
    exact ⟨by rw [lineR_bad (by rw [lineE_out c1]; decide), lineE_out c1]; rfl, hp.ext⟩
  · have c1 : ((¬ (s.1 < (1 : Int))) ∧ (¬ (s.1 > (4 : Int)))) := ⟨(of_decide_eq_false (orF1 c1r)), (of_decide_eq_false (orF2 c1r))⟩
    refine Cfg.reg rfl [1, 35] [(0, false, none), (0, false, some (.int .i64 s.1)), (0, false, none), (0, false, none), (0, false, none), (0, false, some (.int .u32 (s.2.2.1 : Int))), (0, false, none), (0, false, none), (0, false, none), (0, false, some (.int .u32 (s.2.2.2.1 : Int))), (0, false, none), (0, false, none), (0, false, none), (0, false, none), (0, false, some (.int .u32 (s.2.2.2.2.1 : Int))), (0, false, none), (0, false, none), (0, false, none), (0, false, none), (0, false, some (.int .u32 (s.2.2.2.2.2 : Int)))] (Γ' := [(35, [], .bool ((s.1 != (3 : Int)) && (((((s.2.2.1 : Int) != (0 : Int)) || ((s.2.2.2.1 : Int) != (0 : Int))) || ((s.2.2.2.2.1 : Int) != (0 : Int))) || ((s.2.2.2.2.2 : Int) != (0 : Int))))), (1, [], .pointer (some ⟨ab, 0, none⟩))]) (nd := (fun S => [(∀ w1, S w1 → w1.cell? ⟨ab, 0, none⟩ = some (.int .i64 s.1)), ((.bool (s.1 != (3 : Int)) : Value) = .bool true → (∀ w1, S w1 → w1.cell? ⟨ab, 2, none⟩ = some (.int .u32 (s.2.2.1 : Int)))), ((.bool ((s.2.2.1 : Int) != (0 : Int)) : Value) = .bool false → ((.bool (s.1 != (3 : Int)) : Value) = .bool true → (∀ w1, S w1 → w1.cell? ⟨ab, 3, none⟩ = some (.int .u32 (s.2.2.2.1 : Int))))), ((.bool (((s.2.2.1 : Int) != (0 : Int)) || ((s.2.2.2.1 : Int) != (0 : Int))) : Value) = .bool false → ((.bool (s.1 != (3 : Int)) : Value) = .bool true → (∀ w1, S w1 → w1.cell? ⟨ab, 4, none⟩ = some (.int .u32 (s.2.2.2.2.1 : Int))))), ((.bool ((((s.2.2.1 : Int) != (0 : Int)) || ((s.2.2.2.1 : Int) != (0 : Int))) || ((s.2.2.2.2.1 : Int) != (0 : Int))) : Value) = .bool false → ((.bool (s.1 != (3 : Int)) : Value) = .bool true → (∀ w1, S w1 → w1.cell? ⟨ab, 5, none⟩ = some (.int .u32 (s.2.2.2.2.2 : Int)))))])) (fun _ => by kernel_rfl) ⟨(fun w1 h => h.ocell 0 rfl rfl), (fun g0 => have q0 : (s.1 ≠ (3 : Int)) := (bne_iff_ne.1 (boolV g0)); (fun w1 h => h.ocell 0 rfl rfl)), (fun g0 g1 => have q0 : ((s.2.2.1 : Int) = (0 : Int)) := (bne_eq_false_iff_eq.1 (boolV g0)); have q1 : (s.1 ≠ (3 : Int)) := (bne_iff_ne.1 (boolV g1)); (fun w1 h => h.ocell 0 rfl rfl)), (fun g0 g1 => have q0 : (((s.2.2.1 : Int) = (0 : Int)) ∧ ((s.2.2.2.1 : Int) = (0 : Int))) := ⟨(bne_eq_false_iff_eq.1 (orF1 (boolV g0))), (bne_eq_false_iff_eq.1 (orF2 (boolV g0)))⟩; have q1 : (s.1 ≠ (3 : Int)) := (bne_iff_ne.1 (boolV g1)); (fun w1 h => h.ocell 0 rfl rfl)), (fun g0 g1 => have q0 : ((((s.2.2.1 : Int) = (0 : Int)) ∧ ((s.2.2.2.1 : Int) = (0 : Int))) ∧ ((s.2.2.2.2.1 : Int) = (0 : Int))) := ⟨⟨(bne_eq_false_iff_eq.1 (orF1 (orF1 (boolV g0)))), (bne_eq_false_iff_eq.1 (orF2 (orF1 (boolV g0))))⟩, (bne_eq_false_iff_eq.1 (orF2 (boolV g0)))⟩; have q1 : (s.1 ≠ (3 : Int)) := (bne_iff_ne.1 (boolV g1)); (fun w1 h => h.ocell 0 rfl rfl)), trivial⟩ ?_
    refine Cfg.cond rfl (b := ((s.1 != (3 : Int)) && (((((s.2.2.1 : Int) != (0 : Int)) || ((s.2.2.2.1 : Int) != (0 : Int))) || ((s.2.2.2.2.1 : Int) != (0 : Int))) || ((s.2.2.2.2.2 : Int) != (0 : Int))))) (by kernel_rfl) (fun c2r => ?_) (fun c2r => ?_)
    · have c2 : ((s.1 ≠ (3 : Int)) ∧ (((((s.2.2.1 : Int) ≠ (0 : Int)) ∨ ((s.2.2.2.1 : Int) ≠ (0 : Int))) ∨ ((s.2.2.2.2.1 : Int) ≠ (0 : Int))) ∨ ((s.2.2.2.2.2 : Int) ≠ (0 : Int)))) := ⟨(bne_iff_ne.1 (andT1 c2r)), ((orT (andT2 c2r)).elim (fun h => Or.inl ((orT h).elim (fun h => Or.inl ((orT h).elim (fun h => Or.inl (bne_iff_ne.1 h)) (fun h => Or.inr (bne_iff_ne.1 h)))) (fun h => Or.inr (bne_iff_ne.1 h)))) (fun h => Or.inr (bne_iff_ne.1 h)))⟩
      refine Cfg.reg rfl [2, 3] [] (Γ' := [(3, [], .int .i64 4), (2, [], .string ⟨#[]⟩)]) (nd := (fun _ => [])) (fun _ => by kernel_rfl) trivial ?_
      refine Cfg.ret rfl (rs := [.tmp 2, .tmp 3]) rfl [.string ⟨#[]⟩, .int .i64 4] ⟨by kernel_rfl, by kernel_rfl, trivial⟩ (fun w1 hp => ?_)
      have h3 : s.1 ≠ 3 := by omega
      have hn : ¬ bare s := by unfold bare; omega
      have he := lineE_form (by omega) h3 hn
      exact ⟨by rw [lineR_bad (by rw [he]; decide), he]; rfl, hp.ext⟩
    · have c2 : ((s.1 = (3 : Int)) ∨ (((((s.2.2.1 : Int) = (0 : Int)) ∧ ((s.2.2.2.1 : Int) = (0 : Int))) ∧ ((s.2.2.2.2.1 : Int) = (0 : Int))) ∧ ((s.2.2.2.2.2 : Int) = (0 : Int)))) := ((andF c2r).elim (fun h => Or.inl (bne_eq_false_iff_eq.1 h)) (fun h => Or.inr ⟨⟨⟨(bne_eq_false_iff_eq.1 (orF1 (orF1 (orF1 h)))), (bne_eq_false_iff_eq.1 (orF2 (orF1 (orF1 h))))⟩, (bne_eq_false_iff_eq.1 (orF2 (orF1 h)))⟩, (bne_eq_false_iff_eq.1 (orF2 h))⟩))
      refine Cfg.begL rfl ?_
      refine CfgL.pure 2 [(0, false, none), (0, false, some (.int .u32 (s.2.1 : Int)))] (some [1, 37]) (Γ' := [(37, [], .int .u32 (s.2.1 : Int)), (1, [], .pointer (some ⟨ab, 0, none⟩))]) (nd := (fun S => [(∀ w1, S w1 → w1.cell? ⟨ab, 1, none⟩ = some (.int .u32 (s.2.1 : Int)))])) (by kernel_rfl) (fun _ => by kernel_rfl) ⟨(fun w1 h => h.ocell 0 rfl rfl), trivial⟩ ?_
      refine CfgL.eff (o := _) rfl (by kernel_rfl) (by kernel_rfl) (Eff.callA (vs := [.int .u32 (s.2.1 : Int)]) (.string (tx (Lib.decDigits s.2.1))) rfl Tryd.func14 rfl rfl (by kernel_rfl) (fun w1 h => rDec s.2.1 w1 f1)) ?_
      rintro ⟨⟩ -
      refine CfgL.pure 2 [] (some [1, 4]) (Γ' := [(4, [], .string ((⟨#[32]⟩ : ByteArray) ++ (tx (Lib.decDigits s.2.1)))), (1, [], .pointer (some ⟨ab, 0, none⟩))]) (nd := (fun _ => [(1 + (tx (Lib.decDigits s.2.1)).size ≤ 9223372036854775807)])) (by kernel_rfl) (fun _ => by kernel_rfl) ⟨(by simp only [tx_size]; (try simp only [ByteArray.size, List.size_toArray, List.length_cons, List.length_nil]); omega), trivial⟩ ?_
      refine CfgL.done rfl ?_
      refine Cfg.reg rfl [1, 4, 41] [(0, false, none), (0, false, some (.int .i64 s.1))] (Γ' := [(41, [], .int .i64 s.1), (4, [], .string ((⟨#[32]⟩ : ByteArray) ++ (tx (Lib.decDigits s.2.1)))), (1, [], .pointer (some ⟨ab, 0, none⟩))]) (nd := (fun S => [(∀ w1, S w1 → w1.cell? ⟨ab, 0, none⟩ = some (.int .i64 s.1))])) (fun _ => by kernel_rfl) ⟨(fun w1 h => h.ocell 0 rfl rfl), trivial⟩ ?_
      refine Cfg.reg rfl [1, 4, 41, 42] [] (Γ' := [(42, [], .bool (s.1 == (1 : Int))), (41, [], .int .i64 s.1), (4, [], .string ((⟨#[32]⟩ : ByteArray) ++ (tx (Lib.decDigits s.2.1)))), (1, [], .pointer (some ⟨ab, 0, none⟩))]) (nd := (fun _ => [])) (fun _ => by kernel_rfl) trivial ?_
      refine Cfg.cond rfl (b := (s.1 == (1 : Int))) (by kernel_rfl) (fun c3r => ?_) (fun c3r => ?_)
      · have c3 : (s.1 = (1 : Int)) := (beq_iff_eq.1 c3r)
        refine Cfg.reg rfl [2, 3] [] (Γ' := [(3, [], .int .i64 0), (2, [], .string ((⟨#[118, 101, 114, 116, 101, 120]⟩ : ByteArray) ++ ((⟨#[32]⟩ : ByteArray) ++ (tx (Lib.decDigits s.2.1)))))]) (nd := (fun _ => [(6 + ((⟨#[32]⟩ : ByteArray) ++ (tx (Lib.decDigits s.2.1))).size ≤ 9223372036854775807)])) (fun _ => by kernel_rfl) ⟨(by simp only [ByteArray.size_append, tx_size]; (try simp only [ByteArray.size, List.size_toArray, List.length_cons, List.length_nil]); omega), trivial⟩ ?_
        refine Cfg.ret rfl (rs := [.tmp 2, .tmp 3]) rfl [.string ((⟨#[118, 101, 114, 116, 101, 120]⟩ : ByteArray) ++ ((⟨#[32]⟩ : ByteArray) ++ (tx (Lib.decDigits s.2.1)))), .int .i64 0] ⟨by kernel_rfl, by kernel_rfl, trivial⟩ (fun w1 hp => ?_)
        have hn : bare s := by unfold bare; omega
        have he := lineE_bare (by omega) hn
        have hT : lineT s = wdA1 ++ ([32] ++ Lib.decDigits s.2.1) := by rw [lineT_eq]; unfold numsOf joinT; rw [if_neg (by omega), show s.1 = 1 by omega]; simp [spD]; rfl
        exact ⟨by rw [lineR_ok he, he, hT, ← tx_app, ← tx_app]; rfl, hp.ext⟩
      · have c3 : (s.1 ≠ (1 : Int)) := (beq_eq_false_iff_ne.1 c3r)
        refine Cfg.reg rfl [1, 4, 41, 46] [] (Γ' := [(46, [], .bool (s.1 == (2 : Int))), (41, [], .int .i64 s.1), (4, [], .string ((⟨#[32]⟩ : ByteArray) ++ (tx (Lib.decDigits s.2.1)))), (1, [], .pointer (some ⟨ab, 0, none⟩))]) (nd := (fun _ => [])) (fun _ => by kernel_rfl) trivial ?_
        refine Cfg.cond rfl (b := (s.1 == (2 : Int))) (by kernel_rfl) (fun c4r => ?_) (fun c4r => ?_)
        · have c4 : (s.1 = (2 : Int)) := (beq_iff_eq.1 c4r)
          refine Cfg.reg rfl [2, 3] [] (Γ' := [(3, [], .int .i64 0), (2, [], .string ((⟨#[110, 111, 45, 118, 101, 114, 116, 101, 120]⟩ : ByteArray) ++ ((⟨#[32]⟩ : ByteArray) ++ (tx (Lib.decDigits s.2.1)))))]) (nd := (fun _ => [(9 + ((⟨#[32]⟩ : ByteArray) ++ (tx (Lib.decDigits s.2.1))).size ≤ 9223372036854775807)])) (fun _ => by kernel_rfl) ⟨(by simp only [ByteArray.size_append, tx_size]; (try simp only [ByteArray.size, List.size_toArray, List.length_cons, List.length_nil]); omega), trivial⟩ ?_
          refine Cfg.ret rfl (rs := [.tmp 2, .tmp 3]) rfl [.string ((⟨#[110, 111, 45, 118, 101, 114, 116, 101, 120]⟩ : ByteArray) ++ ((⟨#[32]⟩ : ByteArray) ++ (tx (Lib.decDigits s.2.1)))), .int .i64 0] ⟨by kernel_rfl, by kernel_rfl, trivial⟩ (fun w1 hp => ?_)
          have hn : bare s := by unfold bare; omega
          have he := lineE_bare (by omega) hn
          have hT : lineT s = wdA2 ++ ([32] ++ Lib.decDigits s.2.1) := by rw [lineT_eq]; unfold numsOf joinT; rw [if_neg (by omega), show s.1 = 2 by omega]; simp [spD]; rfl
          exact ⟨by rw [lineR_ok he, he, hT, ← tx_app, ← tx_app]; rfl, hp.ext⟩
        · have c4 : (s.1 ≠ (2 : Int)) := (beq_eq_false_iff_ne.1 c4r)
          refine Cfg.reg rfl [1, 4, 50] [] (Γ' := [(50, [], .bool (s.1 == (4 : Int))), (4, [], .string ((⟨#[32]⟩ : ByteArray) ++ (tx (Lib.decDigits s.2.1)))), (1, [], .pointer (some ⟨ab, 0, none⟩))]) (nd := (fun _ => [])) (fun _ => by kernel_rfl) trivial ?_
          refine Cfg.cond rfl (b := (s.1 == (4 : Int))) (by kernel_rfl) (fun c5r => ?_) (fun c5r => ?_)
          · have c5 : (s.1 = (4 : Int)) := (beq_iff_eq.1 c5r)
            refine Cfg.reg rfl [2, 3] [] (Γ' := [(3, [], .int .i64 0), (2, [], .string ((⟨#[110, 111, 45, 101, 100, 103, 101]⟩ : ByteArray) ++ ((⟨#[32]⟩ : ByteArray) ++ (tx (Lib.decDigits s.2.1)))))]) (nd := (fun _ => [(7 + ((⟨#[32]⟩ : ByteArray) ++ (tx (Lib.decDigits s.2.1))).size ≤ 9223372036854775807)])) (fun _ => by kernel_rfl) ⟨(by simp only [ByteArray.size_append, tx_size]; (try simp only [ByteArray.size, List.size_toArray, List.length_cons, List.length_nil]); omega), trivial⟩ ?_
            refine Cfg.ret rfl (rs := [.tmp 2, .tmp 3]) rfl [.string ((⟨#[110, 111, 45, 101, 100, 103, 101]⟩ : ByteArray) ++ ((⟨#[32]⟩ : ByteArray) ++ (tx (Lib.decDigits s.2.1)))), .int .i64 0] ⟨by kernel_rfl, by kernel_rfl, trivial⟩ (fun w1 hp => ?_)
            have hn : bare s := by unfold bare; omega
            have he := lineE_bare (by omega) hn
            have hT : lineT s = wdA4 ++ ([32] ++ Lib.decDigits s.2.1) := by rw [lineT_eq]; unfold numsOf joinT; rw [if_neg (by omega), show s.1 = 4 by omega]; simp [spD]; rfl
            exact ⟨by rw [lineR_ok he, he, hT, ← tx_app, ← tx_app]; rfl, hp.ext⟩
          · have c5 : (s.1 ≠ (4 : Int)) := (beq_eq_false_iff_ne.1 c5r)
            refine Cfg.begA rfl (by kernel_rfl) [(ab, .cells #[.int .i64 s.1, .int .u32 (s.2.1 : Int), .int .u32 (s.2.2.1 : Int), .int .u32 (s.2.2.2.1 : Int), .int .u32 (s.2.2.2.2.1 : Int), .int .u32 (s.2.2.2.2.2 : Int)] 26 (0, 0))] ?_
            refine CfgA.pure [0, 1, 2, 3, 4, 8, 9, 13, 14, 18, 19] [(0, false, none), (0, false, none), (0, false, none), (0, false, none), (0, false, some (.int .u32 (s.2.2.1 : Int))), (0, false, none), (0, false, some (.int .u32 (s.2.2.2.1 : Int))), (0, false, none), (0, false, some (.int .u32 (s.2.2.2.2.1 : Int))), (0, false, none), (0, false, some (.int .u32 (s.2.2.2.2.2 : Int)))] (some [56, 58, 63, 68, 73]) (l' := #[true, true, true, true, true, false, false, false, true, true, false, false, false, true, true, false, false, false, true, true, false, false, false, false]) (by kernel_rfl) (by kernel_rfl) (.cons_cons _ .slnil) 13 rfl (Γ' := [(73, [], .int .u32 (s.2.2.2.2.2 : Int)), (68, [], .int .u32 (s.2.2.2.2.1 : Int)), (63, [], .int .u32 (s.2.2.2.1 : Int)), (58, [], .int .u32 (s.2.2.1 : Int)), (56, [], .string (((⟨#[101, 100, 103, 101]⟩ : ByteArray) ++ ((⟨#[32]⟩ : ByteArray) ++ (tx (Lib.decDigits s.2.1)))) ++ (⟨#[32]⟩ : ByteArray)))]) (nd := (fun S => [(4 + ((⟨#[32]⟩ : ByteArray) ++ (tx (Lib.decDigits s.2.1))).size ≤ 9223372036854775807), (((⟨#[101, 100, 103, 101]⟩ : ByteArray) ++ ((⟨#[32]⟩ : ByteArray) ++ (tx (Lib.decDigits s.2.1)))).size + 1 ≤ 9223372036854775807), (∀ w1, S w1 → w1.cell? ⟨ab, 2, none⟩ = some (.int .u32 (s.2.2.1 : Int))), (∀ w1, S w1 → w1.cell? ⟨ab, 3, none⟩ = some (.int .u32 (s.2.2.2.1 : Int))), (∀ w1, S w1 → w1.cell? ⟨ab, 4, none⟩ = some (.int .u32 (s.2.2.2.2.1 : Int))), (∀ w1, S w1 → w1.cell? ⟨ab, 5, none⟩ = some (.int .u32 (s.2.2.2.2.2 : Int)))])) (fun _ => by kernel_rfl) ⟨(by simp only [ByteArray.size_append, tx_size]; (try simp only [ByteArray.size, List.size_toArray, List.length_cons, List.length_nil]); omega), (by simp only [ByteArray.size_append, tx_size]; (try simp only [ByteArray.size, List.size_toArray, List.length_cons, List.length_nil]); omega), (fun w1 h => h.ocell 0 rfl rfl), (fun w1 h => h.ocell 0 rfl rfl), (fun w1 h => h.ocell 0 rfl rfl), (fun w1 h => h.ocell 0 rfl rfl), trivial⟩ ?_
            refine CfgA.eff 5 (o := _) rfl (by kernel_rfl) (fuel' := 12) rfl (by kernel_rfl) (by kernel_rfl) (Eff.callA (vs := [.int .u32 (s.2.2.1 : Int)]) (.string (tx (Lib.decDigits s.2.2.1))) rfl Tryd.func14 rfl rfl (by kernel_rfl) (fun w1 h => rDec s.2.2.1 w1 f2)) (fun _ _ => (.cons_cons _ .slnil)) ?_
            rintro ⟨⟩ -
            refine CfgA.pure [6, 7] [] (some [61, 63, 68, 73]) (l' := #[true, true, true, true, true, true, true, true, true, true, false, false, false, true, true, false, false, false, true, true, false, false, false, false]) (by kernel_rfl) (by kernel_rfl) (.cons_cons _ .slnil) 10 rfl (Γ' := [(61, [], .string (((((⟨#[101, 100, 103, 101]⟩ : ByteArray) ++ ((⟨#[32]⟩ : ByteArray) ++ (tx (Lib.decDigits s.2.1)))) ++ (⟨#[32]⟩ : ByteArray)) ++ (tx (Lib.decDigits s.2.2.1))) ++ (⟨#[32]⟩ : ByteArray))), (73, [], .int .u32 (s.2.2.2.2.2 : Int)), (68, [], .int .u32 (s.2.2.2.2.1 : Int)), (63, [], .int .u32 (s.2.2.2.1 : Int))]) (nd := (fun _ => [((((⟨#[101, 100, 103, 101]⟩ : ByteArray) ++ ((⟨#[32]⟩ : ByteArray) ++ (tx (Lib.decDigits s.2.1)))) ++ (⟨#[32]⟩ : ByteArray)).size + (tx (Lib.decDigits s.2.2.1)).size ≤ 9223372036854775807), (((((⟨#[101, 100, 103, 101]⟩ : ByteArray) ++ ((⟨#[32]⟩ : ByteArray) ++ (tx (Lib.decDigits s.2.1)))) ++ (⟨#[32]⟩ : ByteArray)) ++ (tx (Lib.decDigits s.2.2.1))).size + 1 ≤ 9223372036854775807)])) (fun _ => by kernel_rfl) ⟨(by simp only [ByteArray.size_append, tx_size]; (try simp only [ByteArray.size, List.size_toArray, List.length_cons, List.length_nil]); omega), (by simp only [ByteArray.size_append, tx_size]; (try simp only [ByteArray.size, List.size_toArray, List.length_cons, List.length_nil]); omega), trivial⟩ ?_
            refine CfgA.eff 10 (o := _) rfl (by kernel_rfl) (fuel' := 9) rfl (by kernel_rfl) (by kernel_rfl) (Eff.callA (vs := [.int .u32 (s.2.2.2.1 : Int)]) (.string (tx (Lib.decDigits s.2.2.2.1))) rfl Tryd.func14 rfl rfl (by kernel_rfl) (fun w1 h => rDec s.2.2.2.1 w1 f3)) (fun _ _ => (.cons_cons _ .slnil)) ?_
            rintro ⟨⟩ -
            refine CfgA.pure [11, 12] [] (some [66, 68, 73]) (l' := #[true, true, true, true, true, true, true, true, true, true, true, true, true, true, true, false, false, false, true, true, false, false, false, false]) (by kernel_rfl) (by kernel_rfl) (.cons_cons _ .slnil) 7 rfl (Γ' := [(66, [], .string (((((((⟨#[101, 100, 103, 101]⟩ : ByteArray) ++ ((⟨#[32]⟩ : ByteArray) ++ (tx (Lib.decDigits s.2.1)))) ++ (⟨#[32]⟩ : ByteArray)) ++ (tx (Lib.decDigits s.2.2.1))) ++ (⟨#[32]⟩ : ByteArray)) ++ (tx (Lib.decDigits s.2.2.2.1))) ++ (⟨#[32]⟩ : ByteArray))), (73, [], .int .u32 (s.2.2.2.2.2 : Int)), (68, [], .int .u32 (s.2.2.2.2.1 : Int))]) (nd := (fun _ => [((((((⟨#[101, 100, 103, 101]⟩ : ByteArray) ++ ((⟨#[32]⟩ : ByteArray) ++ (tx (Lib.decDigits s.2.1)))) ++ (⟨#[32]⟩ : ByteArray)) ++ (tx (Lib.decDigits s.2.2.1))) ++ (⟨#[32]⟩ : ByteArray)).size + (tx (Lib.decDigits s.2.2.2.1)).size ≤ 9223372036854775807), (((((((⟨#[101, 100, 103, 101]⟩ : ByteArray) ++ ((⟨#[32]⟩ : ByteArray) ++ (tx (Lib.decDigits s.2.1)))) ++ (⟨#[32]⟩ : ByteArray)) ++ (tx (Lib.decDigits s.2.2.1))) ++ (⟨#[32]⟩ : ByteArray)) ++ (tx (Lib.decDigits s.2.2.2.1))).size + 1 ≤ 9223372036854775807)])) (fun _ => by kernel_rfl) ⟨(by simp only [ByteArray.size_append, tx_size]; (try simp only [ByteArray.size, List.size_toArray, List.length_cons, List.length_nil]); omega), (by simp only [ByteArray.size_append, tx_size]; (try simp only [ByteArray.size, List.size_toArray, List.length_cons, List.length_nil]); omega), trivial⟩ ?_
            refine CfgA.eff 15 (o := _) rfl (by kernel_rfl) (fuel' := 6) rfl (by kernel_rfl) (by kernel_rfl) (Eff.callA (vs := [.int .u32 (s.2.2.2.2.1 : Int)]) (.string (tx (Lib.decDigits s.2.2.2.2.1))) rfl Tryd.func14 rfl rfl (by kernel_rfl) (fun w1 h => rDec s.2.2.2.2.1 w1 f4)) (fun _ _ => (.cons_cons _ .slnil)) ?_
            rintro ⟨⟩ -
            refine CfgA.pure [16, 17] [] (some [71, 73]) (l' := #[true, true, true, true, true, true, true, true, true, true, true, true, true, true, true, true, true, true, true, true, false, false, false, false]) (by kernel_rfl) (by kernel_rfl) (.cons_cons _ .slnil) 4 rfl (Γ' := [(71, [], .string (((((((((⟨#[101, 100, 103, 101]⟩ : ByteArray) ++ ((⟨#[32]⟩ : ByteArray) ++ (tx (Lib.decDigits s.2.1)))) ++ (⟨#[32]⟩ : ByteArray)) ++ (tx (Lib.decDigits s.2.2.1))) ++ (⟨#[32]⟩ : ByteArray)) ++ (tx (Lib.decDigits s.2.2.2.1))) ++ (⟨#[32]⟩ : ByteArray)) ++ (tx (Lib.decDigits s.2.2.2.2.1))) ++ (⟨#[32]⟩ : ByteArray))), (73, [], .int .u32 (s.2.2.2.2.2 : Int))]) (nd := (fun _ => [((((((((⟨#[101, 100, 103, 101]⟩ : ByteArray) ++ ((⟨#[32]⟩ : ByteArray) ++ (tx (Lib.decDigits s.2.1)))) ++ (⟨#[32]⟩ : ByteArray)) ++ (tx (Lib.decDigits s.2.2.1))) ++ (⟨#[32]⟩ : ByteArray)) ++ (tx (Lib.decDigits s.2.2.2.1))) ++ (⟨#[32]⟩ : ByteArray)).size + (tx (Lib.decDigits s.2.2.2.2.1)).size ≤ 9223372036854775807), (((((((((⟨#[101, 100, 103, 101]⟩ : ByteArray) ++ ((⟨#[32]⟩ : ByteArray) ++ (tx (Lib.decDigits s.2.1)))) ++ (⟨#[32]⟩ : ByteArray)) ++ (tx (Lib.decDigits s.2.2.1))) ++ (⟨#[32]⟩ : ByteArray)) ++ (tx (Lib.decDigits s.2.2.2.1))) ++ (⟨#[32]⟩ : ByteArray)) ++ (tx (Lib.decDigits s.2.2.2.2.1))).size + 1 ≤ 9223372036854775807)])) (fun _ => by kernel_rfl) ⟨(by simp only [ByteArray.size_append, tx_size]; (try simp only [ByteArray.size, List.size_toArray, List.length_cons, List.length_nil]); omega), (by simp only [ByteArray.size_append, tx_size]; (try simp only [ByteArray.size, List.size_toArray, List.length_cons, List.length_nil]); omega), trivial⟩ ?_
            refine CfgA.eff 20 (o := _) rfl (by kernel_rfl) (fuel' := 3) rfl (by kernel_rfl) (by kernel_rfl) (Eff.callA (vs := [.int .u32 (s.2.2.2.2.2 : Int)]) (.string (tx (Lib.decDigits s.2.2.2.2.2))) rfl Tryd.func14 rfl rfl (by kernel_rfl) (fun w1 h => rDec s.2.2.2.2.2 w1 f5)) (fun _ _ => (.cons_cons _ .slnil)) ?_
            rintro ⟨⟩ -
            refine CfgA.pure [21, 22, 23] [] (some [2, 3]) (l' := #[true, true, true, true, true, true, true, true, true, true, true, true, true, true, true, true, true, true, true, true, true, true, true, true]) (by kernel_rfl) (by kernel_rfl) (.cons_cons _ .slnil) 0 rfl (Γ' := [(3, [], .int .i64 0), (2, [], .string ((((((((((⟨#[101, 100, 103, 101]⟩ : ByteArray) ++ ((⟨#[32]⟩ : ByteArray) ++ (tx (Lib.decDigits s.2.1)))) ++ (⟨#[32]⟩ : ByteArray)) ++ (tx (Lib.decDigits s.2.2.1))) ++ (⟨#[32]⟩ : ByteArray)) ++ (tx (Lib.decDigits s.2.2.2.1))) ++ (⟨#[32]⟩ : ByteArray)) ++ (tx (Lib.decDigits s.2.2.2.2.1))) ++ (⟨#[32]⟩ : ByteArray)) ++ (tx (Lib.decDigits s.2.2.2.2.2))))]) (nd := (fun _ => [((((((((((⟨#[101, 100, 103, 101]⟩ : ByteArray) ++ ((⟨#[32]⟩ : ByteArray) ++ (tx (Lib.decDigits s.2.1)))) ++ (⟨#[32]⟩ : ByteArray)) ++ (tx (Lib.decDigits s.2.2.1))) ++ (⟨#[32]⟩ : ByteArray)) ++ (tx (Lib.decDigits s.2.2.2.1))) ++ (⟨#[32]⟩ : ByteArray)) ++ (tx (Lib.decDigits s.2.2.2.2.1))) ++ (⟨#[32]⟩ : ByteArray)).size + (tx (Lib.decDigits s.2.2.2.2.2)).size ≤ 9223372036854775807)])) (fun _ => by kernel_rfl) ⟨(by simp only [ByteArray.size_append, tx_size]; (try simp only [ByteArray.size, List.size_toArray, List.length_cons, List.length_nil]); omega), trivial⟩ ?_
            refine CfgA.done (by kernel_rfl) ?_
            refine Cfg.ret rfl (rs := [.tmp 2, .tmp 3]) rfl [.string ((((((((((⟨#[101, 100, 103, 101]⟩ : ByteArray) ++ ((⟨#[32]⟩ : ByteArray) ++ (tx (Lib.decDigits s.2.1)))) ++ (⟨#[32]⟩ : ByteArray)) ++ (tx (Lib.decDigits s.2.2.1))) ++ (⟨#[32]⟩ : ByteArray)) ++ (tx (Lib.decDigits s.2.2.2.1))) ++ (⟨#[32]⟩ : ByteArray)) ++ (tx (Lib.decDigits s.2.2.2.2.1))) ++ (⟨#[32]⟩ : ByteArray)) ++ (tx (Lib.decDigits s.2.2.2.2.2))), .int .i64 0] ⟨by kernel_rfl, by kernel_rfl, trivial⟩ (fun w1 hp => ?_)
            have h3 : s.1 = 3 := by omega
            have he := lineE_three h3
            have hT : lineT s = wdA3 ++ ([32] ++ Lib.decDigits s.2.1) ++ [32] ++ Lib.decDigits s.2.2.1 ++ [32] ++ Lib.decDigits s.2.2.2.1 ++ [32] ++ Lib.decDigits s.2.2.2.2.1 ++ [32] ++ Lib.decDigits s.2.2.2.2.2 := by rw [lineT_eq]; unfold numsOf joinT; rw [if_pos h3, h3]; simp [spD]; rfl
            exact ⟨by rw [lineR_ok he, he, hT]; simp only [← tx_app]; rfl, hp.ext⟩

end Go.Proofs.YtoopekjbikcebaaDoor
