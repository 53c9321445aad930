/- disk: the example of the chapter. -/
import Derived.Test.YtnoipbbcpiaemaaDkD
namespace Go.Proofs.Ytnoipbbcpiaemaa
open K
set_option linter.unusedVariables false

/-- The first byte b, the others none. -/
def bk1 (b : UInt8) : List UInt8 := b :: List.replicate 511 0
theorem bk1_len (b : UInt8) : (bk1 b).length = 512 := by rw [bk1, List.length_cons, List.length_replicate]
def aD (s : Int) (l : List (List UInt8)) (W : Wt) : DK := { fuse := -1, steps := s, down := false, last := l, wait := W }
theorem keys1 (q : Int) (b : List UInt8) : keysW [(q, b)] = [q] := by unfold keysW srt wv2; simp
theorem keys0 : keysW [] = [] := by unfold keysW srt wv2; simp
theorem aw_write (s : Int) (l : List (List UInt8)) (b : List UInt8) (h : 64 ≤ l.length) : writeF (aD s l []) 5 b = (0, aD (s + 1) l [(5, b)]) := by
  have h0 : fltF (aD s l []) 5 = 0 := by
    unfold fltF
    rw [if_neg (by show ¬ (false = true); decide), if_pos]
    show (0 : Int) ≤ 5 ∧ (5 : Int) < (l.length : Int)
    omega
  have h1 : spF (aD s l []) = (true, aD (s + 1) l []) := rfl
  unfold writeF
  rw [if_neg (by rw [h0]; decide), h1]; rfl
theorem aw_crash (s : Int) (l : List (List UInt8)) (b : List UInt8) : crashF [] (aD s l [(5, b)]) = aD s l [] := by
  unfold crashF settleF
  show ({ fuse := -1, steps := s, down := false, last := setl _ _ 0 (keysW [(5, b)]) l, wait := [] } : DK) = _
  rw [keys1]; rfl
theorem aw_crash0 (s : Int) (l : List (List UInt8)) : crashF [] (aD s l []) = aD s l [] := by
  unfold crashF settleF
  show ({ fuse := -1, steps := s, down := false, last := setl _ _ 0 (keysW []) l, wait := [] } : DK) = _
  rw [keys0]; rfl
theorem aw_bar (s : Int) (l : List (List UInt8)) (b : List UInt8) : barF (aD s l [(5, b)]) = (0, aD (s + 1) (l.set 5 b) []) := by
  have h1 : spF (aD s l [(5, b)]) = (true, aD (s + 1) l [(5, b)]) := rfl
  unfold barF
  rw [h1]
  show ((0 : Int), ({ fuse := -1, steps := s + 1, down := false, last := setl _ _ 0 (keysW [(5, b)]) l, wait := [] } : DK)) = _
  rw [keys1]; rfl
theorem aw_read (s : Int) (l : List (List UInt8)) (W : Wt) (h : 64 ≤ l.length) : readF (aD s l W) 5 = shown (aD s l W) 5 ∧ fltF (aD s l W) 5 = 0 := by
  have h0 : fltF (aD s l W) 5 = 0 := by
    unfold fltF
    rw [if_neg (by show ¬ (false = true); decide), if_pos]
    show (0 : Int) ≤ 5 ∧ (5 : Int) < (l.length : Int)
    omega
  exact ⟨if_pos h0, h0⟩
def l64 : List (List UInt8) := List.replicate 64 zb
theorem l64_len : l64.length = 64 := List.length_replicate
theorem aG0 : DG (aD 0 l64 []) := DG.new (n := 64) (by decide)
theorem aG1 : DG (aD 1 l64 [(5, bk1 1)]) := by have h := aG0.write 5 (bk1_len 1); rw [aw_write _ _ _ (by rw [l64_len]; decide)] at h; exact h
theorem aG2 : DG (aD 1 l64 []) := by have h := aG1.crash []; rw [aw_crash] at h; exact h
theorem aG3 : DG (aD 2 l64 [(5, bk1 2)]) := by have h := aG2.write 5 (bk1_len 2); rw [aw_write _ _ _ (by rw [l64_len]; decide)] at h; exact h
theorem aG4 : DG (aD 3 (l64.set 5 (bk1 2)) []) := by have h := aG3.bar; rw [aw_bar] at h; exact h
theorem aR1 : readF (aD 1 l64 [(5, bk1 1)]) 5 = bk1 1 := (aw_read _ _ _ (by rw [l64_len]; decide)).1
theorem aR2 : readF (aD 1 l64 []) 5 = zb := (aw_read _ _ _ (by rw [l64_len]; decide)).1
theorem aF1 : fltF (aD 1 l64 [(5, bk1 1)]) 5 = 0 := (aw_read _ _ _ (by rw [l64_len]; decide)).2
theorem aF2 : fltF (aD 1 l64 []) 5 = 0 := (aw_read _ _ _ (by rw [l64_len]; decide)).2
theorem aL4 : lastsF (aD 3 (l64.set 5 (bk1 2)) []) 5 = bk1 2 := by
  unfold lastsF
  rw [if_pos (by show (0 : Int) ≤ 5 ∧ (5 : Int) < ((l64.set 5 (bk1 2)).length : Int); rw [List.length_set, l64_len]; decide)]; rfl

set_option maxRecDepth 100000 in
theorem dAwake (w : World) :
    Calls Try.prog 6 #[] w fun e w' => e = .returned (.bool true) ∧ Ext [] w w' := by
  refine enter (vs := []) [] [] [] Try.func6 rfl (by kernel_rfl) (HP.start w) ?_
  refine Cfg.reg rfl [] [] (Γ' := []) (nd := (fun _ => [])) (fun _ => by kernel_rfl) trivial ?_
  refine Cfg.begL rfl ?_
  refine CfgL.eff (o := _) rfl (by kernel_rfl) (by kernel_rfl) (Eff.callH (vs := [.int .i64 64]) (fun y : DM × MX => .tuple #[.pointer (some ⟨y.1.d, 0, none⟩), .int .i64 0]) [] (fun y => dO (aD 0 l64 []) y.1 y.2) (fun y => MapOk y.2.1 y.2.2 []) [] [] rfl rfl Try.func7 rfl rfl (by kernel_rfl) (fun w1 h _ _ => dNew 64 w1 (by omega))) ?_
  rintro ⟨m, x⟩ hmo
  refine CfgL.pure 5 [] (some [1, 2]) (Γ' := [(2, [], .int .i64 0), (1, [], .pointer (some ⟨m.d, 0, none⟩))]) (nd := (fun _ => [])) (by kernel_rfl) (fun _ => by kernel_rfl) trivial ?_
  refine CfgL.done rfl ?_
  refine Cfg.reg rfl [1, 19] [(0, false, none), (0, false, none), (0, false, none), (1, false, none), (1, false, none)] (Γ' := [(19, [], .bool false), (1, [], .pointer (some ⟨m.d, 0, none⟩))]) (nd := (fun _ => [((.bool false : Value) = .bool false), ((.bool false : Value) = .bool false)])) (fun _ => by kernel_rfl) ⟨rfl, rfl, trivial⟩ ?_
  refine Cfg.condF rfl (b := false) (by kernel_rfl) rfl ?_
  refine Cfg.begL rfl ?_
  refine CfgL.pure 2 [(0, false, none), (0, false, some (.agg (bv (bk1 1))))] none (Γ' := [(21, [], .agg (bv (bk1 1))), (20, [], .pointer (some ⟨m.d, 0, none⟩)), (19, [], .bool false), (1, [], .pointer (some ⟨m.d, 0, none⟩))]) (nd := (fun S => [(∀ w1, S w1 → (Instr.build 33 #[(0, .int .u8 1)]).run Try.prog w1 = .ok (.agg (bv (bk1 1))) w1)])) (by kernel_rfl) (fun _ => by kernel_rfl) ⟨(fun _ _ => by kernel_rfl), trivial⟩ ?_
  refine CfgL.eff (o := _) rfl (by kernel_rfl) (by kernel_rfl) (Eff.callH (vs := [.pointer (some ⟨m.d, 0, none⟩), .int .i64 5, .agg (bv (bk1 1))]) (fun _ : MX => .int .i64 0) (dO (aD 0 l64 []) m x) (fun y => dO (aD 1 l64 [(5, bk1 1)]) m y) (fun y => MapOk y.1 y.2 (wv2 (aD 1 l64 [(5, bk1 1)]).wait)) [] [] rfl rfl Try.func8 rfl rfl (by kernel_rfl) (fun w1 h hA hd => (by have h9 := dWrite m x (aD 0 l64 []) 5 (bk1 1) w1 aG0 hmo hA hd (bk1_len _) (by decide); rw [aw_write _ _ _ (by rw [l64_len]; decide)] at h9; exact h9))) ?_
  rintro x1 hmo_x1
  refine CfgL.pure 1 [] (some [1, 3]) (Γ' := [(3, [], .int .i64 0), (1, [], .pointer (some ⟨m.d, 0, none⟩))]) (nd := (fun _ => [])) (by kernel_rfl) (fun _ => by kernel_rfl) trivial ?_
  refine CfgL.done rfl ?_
  refine Cfg.begL rfl ?_
  refine CfgL.pure 1 [] none (Γ' := [(24, [], .pointer (some ⟨m.d, 0, none⟩)), (3, [], .int .i64 0), (1, [], .pointer (some ⟨m.d, 0, none⟩))]) (nd := (fun _ => [])) (by kernel_rfl) (fun _ => by kernel_rfl) trivial ?_
  refine CfgL.eff (o := _) rfl (by kernel_rfl) (by kernel_rfl) (Eff.callA (vs := [.pointer (some ⟨m.d, 0, none⟩), .int .i64 5]) (.tuple #[.agg (bv (bk1 1)), .int .i64 0]) rfl Try.func13 rfl rfl (by kernel_rfl) (fun w1 h => (by have h9 := dRead m x1 (aD 1 l64 [(5, bk1 1)]) 5 w1 aG1 hmo_x1 (mem_has h (List.Sublist.trans (List.sublist_append_left (dO (aD 1 l64 [(5, bk1 1)]) m x1) _) (List.sublist_append_right [] _))); rw [aR1, aF1] at h9; exact h9))) ?_
  rintro ⟨⟩ -
  refine CfgL.pure 3 [] none (Γ' := [(27, [], .int .i64 0), (26, [], .agg (bv (bk1 1))), (23, [], .tuple #[.agg (bv (bk1 1)), .int .i64 0]), (25, [], .tuple #[.agg (bv (bk1 1)), .int .i64 0]), (24, [], .pointer (some ⟨m.d, 0, none⟩)), (3, [], .int .i64 0), (1, [], .pointer (some ⟨m.d, 0, none⟩))]) (nd := (fun _ => [])) (by kernel_rfl) (fun _ => by kernel_rfl) trivial ?_
  refine CfgL.eff (o := _) rfl (by kernel_rfl) (by kernel_rfl) (Eff.alloc (z := (.agg (bv (List.replicate 512 0)))) rfl (by kernel_rfl)) ?_
  rintro b1 ⟨hb1, nb1⟩
  refine CfgL.eff (o := _) rfl (by kernel_rfl) (by kernel_rfl) (Eff.storeN (b := b1) (off := 0) (vs := (bv (bk1 1))) (n := 512) rfl (by kernel_rfl) (by kernel_rfl) (by kernel_rfl) ((bv_size _).trans (bk1_len _)) (all_bv _) 0 (cs := (bv (List.replicate 512 0))) (e := 33) (by kernel_rfl) (by rw [zsz512]; omega)) ?_
  rintro ⟨⟩ -
  refine CfgL.setO (O' := ([(b1, .cells (bv (bk1 1)) 33 (0, 0))] ++ (dO (aD 1 l64 [(5, bk1 1)]) m x1 ++ []))) (congrArg (fun (xq : Array Value) => (([(b1, .cells xq 33 (0, 0))] ++ (dO (aD 1 l64 [(5, bk1 1)]) m x1 ++ [])) : List (Nat × Obj))) (spl_all (((bv_size _).trans (bk1_len _)).trans zsz512.symm))) ?_
  refine CfgL.pure 1 [] (some [1, 3, 4, 5]) (Γ' := [(5, [], .int .i64 0), (4, [], .pointer (some ⟨b1, 0, none⟩)), (3, [], .int .i64 0), (1, [], .pointer (some ⟨m.d, 0, none⟩))]) (nd := (fun _ => [])) (by kernel_rfl) (fun _ => by kernel_rfl) trivial ?_
  refine CfgL.done rfl ?_
  refine Cfg.begL rfl ?_
  refine CfgL.pure 1 [] none (Γ' := [(28, [], .pointer (some ⟨m.d, 0, none⟩)), (5, [], .int .i64 0), (4, [], .pointer (some ⟨b1, 0, none⟩)), (3, [], .int .i64 0), (1, [], .pointer (some ⟨m.d, 0, none⟩))]) (nd := (fun _ => [])) (by kernel_rfl) (fun _ => by kernel_rfl) trivial ?_
  refine CfgL.eff (o := _) rfl (by kernel_rfl) (by kernel_rfl) (Eff.callH (vs := [.pointer (some ⟨m.d, 0, none⟩), .slice none 0 0]) (fun _ : MX => .tuple #[]) (dO (aD 1 l64 [(5, bk1 1)]) m x1) (fun y => dO (aD 1 l64 []) m y) (fun y => MapOk y.1 y.2 (wv2 (aD 1 l64 []).wait)) [(b1, .cells (bv (bk1 1)) 33 (0, 0))] [] rfl rfl Try.func12 rfl rfl (by kernel_rfl) (fun w1 h hA hd => (by have h9 := dCrash m x1 (aD 1 l64 [(5, bk1 1)]) none 0 [] [] w1 aG1 hmo_x1 hA hd (fun h => absurd h (by simp)) (Nat.zero_le _) (fun e he => by cases he) (fun e he => by cases he); rw [aw_crash] at h9; exact h9))) ?_
  rintro x2 hmo_x2
  refine CfgL.done rfl ?_
  refine Conv.cfg (Γ' := [(5, [], .int .i64 0), (4, [], .pointer (some ⟨b1, 0, none⟩)), (3, [], .int .i64 0), (1, [], .pointer (some ⟨m.d, 0, none⟩))]) (Conv.mk (by kernel_rfl)) ?_
  refine Cfg.begL rfl ?_
  refine CfgL.pure 1 [] none (Γ' := [(31, [], .pointer (some ⟨m.d, 0, none⟩)), (5, [], .int .i64 0), (4, [], .pointer (some ⟨b1, 0, none⟩)), (3, [], .int .i64 0), (1, [], .pointer (some ⟨m.d, 0, none⟩))]) (nd := (fun _ => [])) (by kernel_rfl) (fun _ => by kernel_rfl) trivial ?_
  refine CfgL.eff (o := _) rfl (by kernel_rfl) (by kernel_rfl) (Eff.callA (vs := [.pointer (some ⟨m.d, 0, none⟩), .int .i64 5]) (.tuple #[.agg (bv zb), .int .i64 0]) rfl Try.func13 rfl rfl (by kernel_rfl) (fun w1 h => (by have h9 := dRead m x2 (aD 1 l64 []) 5 w1 aG2 hmo_x2 (mem_has h (List.Sublist.trans (List.sublist_append_left (dO (aD 1 l64 []) m x2) _) (List.sublist_append_right [(b1, Obj.cells (bv (bk1 1)) 33 (0, 0))] _))); rw [aR2, aF2] at h9; exact h9))) ?_
  rintro ⟨⟩ -
  refine CfgL.pure 3 [] none (Γ' := [(34, [], .int .i64 0), (33, [], .agg (bv zb)), (30, [], .tuple #[.agg (bv zb), .int .i64 0]), (32, [], .tuple #[.agg (bv zb), .int .i64 0]), (31, [], .pointer (some ⟨m.d, 0, none⟩)), (5, [], .int .i64 0), (4, [], .pointer (some ⟨b1, 0, none⟩)), (3, [], .int .i64 0), (1, [], .pointer (some ⟨m.d, 0, none⟩))]) (nd := (fun _ => [])) (by kernel_rfl) (fun _ => by kernel_rfl) trivial ?_
  refine CfgL.eff (o := _) rfl (by kernel_rfl) (by kernel_rfl) (Eff.alloc (z := (.agg (bv (List.replicate 512 0)))) rfl (by kernel_rfl)) ?_
  rintro b2 ⟨hb2, nb2⟩
  refine CfgL.eff (o := _) rfl (by kernel_rfl) (by kernel_rfl) (Eff.storeN (b := b2) (off := 0) (vs := (bv zb)) (n := 512) rfl (by kernel_rfl) (by kernel_rfl) (by kernel_rfl) ((bv_size _).trans zb_len) (all_bv _) 0 (cs := (bv (List.replicate 512 0))) (e := 33) (by kernel_rfl) (by rw [zsz512]; omega)) ?_
  rintro ⟨⟩ -
  refine CfgL.setO (O' := ([(b2, .cells (bv zb) 33 (0, 0)), (b1, .cells (bv (bk1 1)) 33 (0, 0))] ++ (dO (aD 1 l64 []) m x2 ++ []))) (congrArg (fun (xq : Array Value) => (([(b2, .cells xq 33 (0, 0)), (b1, .cells (bv (bk1 1)) 33 (0, 0))] ++ (dO (aD 1 l64 []) m x2 ++ [])) : List (Nat × Obj))) (spl_all (((bv_size _).trans zb_len).trans zsz512.symm))) ?_
  refine CfgL.pure 1 [] (some [1, 3, 4, 5, 6, 7]) (Γ' := [(7, [], .int .i64 0), (6, [], .pointer (some ⟨b2, 0, none⟩)), (5, [], .int .i64 0), (4, [], .pointer (some ⟨b1, 0, none⟩)), (3, [], .int .i64 0), (1, [], .pointer (some ⟨m.d, 0, none⟩))]) (nd := (fun _ => [])) (by kernel_rfl) (fun _ => by kernel_rfl) trivial ?_
  refine CfgL.done rfl ?_
  refine Cfg.begL rfl ?_
  refine CfgL.pure 2 [(0, false, none), (0, false, some (.agg (bv (bk1 2))))] none (Γ' := [(36, [], .agg (bv (bk1 2))), (35, [], .pointer (some ⟨m.d, 0, none⟩)), (7, [], .int .i64 0), (6, [], .pointer (some ⟨b2, 0, none⟩)), (5, [], .int .i64 0), (4, [], .pointer (some ⟨b1, 0, none⟩)), (3, [], .int .i64 0), (1, [], .pointer (some ⟨m.d, 0, none⟩))]) (nd := (fun S => [(∀ w1, S w1 → (Instr.build 33 #[(0, .int .u8 2)]).run Try.prog w1 = .ok (.agg (bv (bk1 2))) w1)])) (by kernel_rfl) (fun _ => by kernel_rfl) ⟨(fun _ _ => by kernel_rfl), trivial⟩ ?_
  refine CfgL.eff (o := _) rfl (by kernel_rfl) (by kernel_rfl) (Eff.callH (vs := [.pointer (some ⟨m.d, 0, none⟩), .int .i64 5, .agg (bv (bk1 2))]) (fun _ : MX => .int .i64 0) (dO (aD 1 l64 []) m x2) (fun y => dO (aD 2 l64 [(5, bk1 2)]) m y) (fun y => MapOk y.1 y.2 (wv2 (aD 2 l64 [(5, bk1 2)]).wait)) [(b2, .cells (bv zb) 33 (0, 0)), (b1, .cells (bv (bk1 1)) 33 (0, 0))] [] rfl rfl Try.func8 rfl rfl (by kernel_rfl) (fun w1 h hA hd => (by have h9 := dWrite m x2 (aD 1 l64 []) 5 (bk1 2) w1 aG2 hmo_x2 hA hd (bk1_len _) (by decide); rw [aw_write _ _ _ (by rw [l64_len]; decide)] at h9; exact h9))) ?_
  rintro x3 hmo_x3
  refine CfgL.pure 1 [] none (Γ' := [(38, [], .pointer (some ⟨m.d, 0, none⟩)), (37, [], .int .i64 0), (36, [], .agg (bv (bk1 2))), (35, [], .pointer (some ⟨m.d, 0, none⟩)), (7, [], .int .i64 0), (6, [], .pointer (some ⟨b2, 0, none⟩)), (5, [], .int .i64 0), (4, [], .pointer (some ⟨b1, 0, none⟩)), (3, [], .int .i64 0), (1, [], .pointer (some ⟨m.d, 0, none⟩))]) (nd := (fun _ => [])) (by kernel_rfl) (fun _ => by kernel_rfl) trivial ?_
  refine CfgL.eff (o := _) rfl (by kernel_rfl) (by kernel_rfl) (Eff.callH (vs := [.pointer (some ⟨m.d, 0, none⟩)]) (fun _ : MX => .int .i64 0) (dO (aD 2 l64 [(5, bk1 2)]) m x3) (fun y => dO (aD 3 (l64.set 5 (bk1 2)) []) m y) (fun y => MapOk y.1 y.2 (wv2 (aD 3 (l64.set 5 (bk1 2)) []).wait)) [(b2, .cells (bv zb) 33 (0, 0)), (b1, .cells (bv (bk1 1)) 33 (0, 0))] [] rfl rfl Try.func9 rfl rfl (by kernel_rfl) (fun w1 h hA hd => (by have h9 := dBarrier m x3 (aD 2 l64 [(5, bk1 2)]) w1 aG3 hmo_x3 hA hd (by decide); rw [aw_bar] at h9; exact h9))) ?_
  rintro x4 hmo_x4
  refine CfgL.pure 2 [] (some [1, 3, 4, 5, 6, 7, 8, 9]) (Γ' := [(9, [], .int .i64 0), (8, [], .int .i64 0), (7, [], .int .i64 0), (6, [], .pointer (some ⟨b2, 0, none⟩)), (5, [], .int .i64 0), (4, [], .pointer (some ⟨b1, 0, none⟩)), (3, [], .int .i64 0), (1, [], .pointer (some ⟨m.d, 0, none⟩))]) (nd := (fun _ => [])) (by kernel_rfl) (fun _ => by kernel_rfl) trivial ?_
  refine CfgL.done rfl ?_
  refine Cfg.begL rfl ?_
  refine CfgL.pure 1 [] none (Γ' := [(40, [], .pointer (some ⟨m.d, 0, none⟩)), (9, [], .int .i64 0), (8, [], .int .i64 0), (7, [], .int .i64 0), (6, [], .pointer (some ⟨b2, 0, none⟩)), (5, [], .int .i64 0), (4, [], .pointer (some ⟨b1, 0, none⟩)), (3, [], .int .i64 0), (1, [], .pointer (some ⟨m.d, 0, none⟩))]) (nd := (fun _ => [])) (by kernel_rfl) (fun _ => by kernel_rfl) trivial ?_
  refine CfgL.eff (o := _) rfl (by kernel_rfl) (by kernel_rfl) (Eff.callH (vs := [.pointer (some ⟨m.d, 0, none⟩), .slice none 0 0]) (fun _ : MX => .tuple #[]) (dO (aD 3 (l64.set 5 (bk1 2)) []) m x4) (fun y => dO (aD 3 (l64.set 5 (bk1 2)) []) m y) (fun y => MapOk y.1 y.2 (wv2 (aD 3 (l64.set 5 (bk1 2)) []).wait)) [(b2, .cells (bv zb) 33 (0, 0)), (b1, .cells (bv (bk1 1)) 33 (0, 0))] [] rfl rfl Try.func12 rfl rfl (by kernel_rfl) (fun w1 h hA hd => (by have h9 := dCrash m x4 (aD 3 (l64.set 5 (bk1 2)) []) none 0 [] [] w1 aG4 hmo_x4 hA hd (fun h => absurd h (by simp)) (Nat.zero_le _) (fun e he => by cases he) (fun e he => by cases he); rw [aw_crash0] at h9; exact h9))) ?_
  rintro x5 hmo_x5
  refine CfgL.done rfl ?_
  refine Conv.cfg (Γ' := [(9, [], .int .i64 0), (8, [], .int .i64 0), (7, [], .int .i64 0), (6, [], .pointer (some ⟨b2, 0, none⟩)), (5, [], .int .i64 0), (4, [], .pointer (some ⟨b1, 0, none⟩)), (3, [], .int .i64 0), (1, [], .pointer (some ⟨m.d, 0, none⟩))]) (Conv.mk (by kernel_rfl)) ?_
  refine Cfg.begL rfl ?_
  refine CfgL.pure 30 [(0, false, none), (0, false, none), (0, false, none), (1, false, none), (1, false, none), (0, false, none), (0, false, none), (1, false, none), (1, false, some (.int .u8 1)), (1, false, none), (0, false, none), (0, false, none), (1, false, none), (1, false, none), (0, false, none), (0, false, none), (1, false, none), (1, false, some (.int .u8 0)), (1, false, none), (0, false, none), (0, false, none), (1, false, none), (1, false, none), (0, false, none), (0, false, none), (1, false, none), (1, false, none), (0, false, none), (0, false, none), (1, false, none)] none (Γ' := [(71, [], .pointer (some ⟨m.d, 0, none⟩)), (70, [], .bool true), (69, [], .bool true), (68, [], .bool true), (67, [], .int .i64 0), (66, [], .bool true), (65, [], .bool true), (64, [], .bool true), (63, [], .int .i64 0), (62, [], .bool true), (61, [], .bool true), (60, [], .bool true), (59, [], .int .u8 0), (58, [], .pointer (some ⟨b2, 0, none⟩)), (57, [], .bool true), (56, [], .bool true), (55, [], .bool true), (54, [], .int .i64 0), (53, [], .bool true), (52, [], .bool true), (51, [], .bool true), (50, [], .int .u8 1), (49, [], .pointer (some ⟨b1, 0, none⟩)), (48, [], .bool true), (47, [], .bool true), (46, [], .bool true), (45, [], .int .i64 0), (44, [], .bool true), (43, [], .bool true), (42, [], .int .i64 0), (9, [], .int .i64 0), (8, [], .int .i64 0), (7, [], .int .i64 0), (6, [], .pointer (some ⟨b2, 0, none⟩)), (5, [], .int .i64 0), (4, [], .pointer (some ⟨b1, 0, none⟩)), (3, [], .int .i64 0), (1, [], .pointer (some ⟨m.d, 0, none⟩))]) (nd := (fun S => [((.bool true : Value) = .bool true), ((.bool true : Value) = .bool true), ((.bool true : Value) = .bool true), (0 ≤ (0 : Int) ∧ (0 : Int) < (512 : Int)), ((.bool true : Value) = .bool true), (∀ w1, S w1 → w1.cell? ⟨b1, 0, none⟩ = some (.int .u8 1)), ((.bool true : Value) = .bool true), ((.bool true : Value) = .bool true), ((.bool true : Value) = .bool true), ((.bool true : Value) = .bool true), (0 ≤ (0 : Int) ∧ (0 : Int) < (512 : Int)), ((.bool true : Value) = .bool true), (∀ w1, S w1 → w1.cell? ⟨b2, 0, none⟩ = some (.int .u8 0)), ((.bool true : Value) = .bool true), ((.bool true : Value) = .bool true), ((.bool true : Value) = .bool true), ((.bool true : Value) = .bool true), ((.bool true : Value) = .bool true), ((.bool true : Value) = .bool true)])) (by kernel_rfl) (fun _ => by kernel_rfl) ⟨rfl, rfl, rfl, (by omega), rfl, (fun w1 h => h.ocell 1 rfl (by kernel_rfl)), rfl, rfl, rfl, rfl, (by omega), rfl, (fun w1 h => h.ocell 0 rfl (by kernel_rfl)), rfl, rfl, rfl, rfl, rfl, rfl, trivial⟩ ?_
  refine CfgL.eff (o := _) rfl (by kernel_rfl) (by kernel_rfl) (Eff.callA (vs := [.pointer (some ⟨m.d, 0, none⟩), .int .i64 5]) (.agg (bv (bk1 2))) rfl Try.func10 rfl rfl (by kernel_rfl) (fun w1 h => (by have h9 := dLasts m x5 (aD 3 (l64.set 5 (bk1 2)) []) 5 w1 aG4 hmo_x5 (mem_has h (List.Sublist.trans (List.sublist_append_left (dO (aD 3 (l64.set 5 (bk1 2)) []) m x5) _) (List.sublist_append_right [(b2, Obj.cells (bv zb) 33 (0, 0)), (b1, Obj.cells (bv (bk1 1)) 33 (0, 0))] _))); rw [aL4] at h9; exact h9))) ?_
  rintro ⟨⟩ -
  refine CfgL.pure 4 [(1, false, some (.int .u8 2)), (1, false, none)] (some [0]) (Γ' := [(0, [], .bool true)]) (nd := (fun _ => [((.bool true : Value) = .bool true), (0 ≤ (0 : Int) ∧ (0 : Int) < (512 : Int)), (((bv (bk1 2)))[0]? = some (.int .u8 2)), ((.bool true : Value) = .bool true)])) (by kernel_rfl) (fun _ => by kernel_rfl) ⟨rfl, (by omega), (by kernel_rfl), rfl, trivial⟩ ?_
  refine CfgL.done rfl ?_
  refine Cfg.ret rfl (rs := [.tmp 0]) rfl [.bool true] ⟨by kernel_rfl, trivial⟩ (fun w1 hp => ?_)
  exact ⟨by simp [resOf], hp.ext⟩

end Go.Proofs.Ytnoipbbcpiaemaa
