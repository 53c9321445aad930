/- disk: what a disk says. -/
import Derived.Test.YtnoipbbcpiaemaaDk1
namespace Go.Proofs.Ytnoipbbcpiaemaa
open K
set_option linter.unusedVariables false

set_option maxRecDepth 100000 in
theorem dThere (m : DM) (x : MX) (D : DK) (q : Int) (w : World) (hR : Has w (dO D m x)) :
    Calls Try.prog 26 #[.pointer (some ⟨m.d, 3, none⟩), .int .i64 q] w fun e w' => e = .returned (.bool (decide (0 ≤ q ∧ q < (D.last.length : Int)))) ∧ Ext [] w w' := by
  refine enter (vs := [.pointer (some ⟨m.d, 3, none⟩), .int .i64 q]) [] [(m.d, .cells #[.int .i64 D.fuse, .int .i64 D.steps, .bool D.down, .slice (some ⟨m.lb, 0, none⟩) D.last.length D.last.length, .map (some m.mb)] 60 (0, 0)), (m.lb, .cells ((rows D.last).toArray) 33 (0, 0)), (m.mb, .map x.1 x.2)] [] Try.func26 rfl (by kernel_rfl) (HP.ofHas hR) ?_
  refine Cfg.reg rfl [0, 1] [] (Γ' := [(0, [], .pointer (some ⟨m.d, 3, none⟩)), (1, [], .int .i64 q)]) (nd := (fun _ => [])) (fun _ => by kernel_rfl) trivial ?_
  refine Cfg.reg rfl [4] [(0, false, none), (0, false, none), (0, false, none), (0, false, none), (0, false, none), (0, false, none), (0, false, none), (0, false, some (.slice (some ⟨m.lb, 0, none⟩) D.last.length D.last.length))] (Γ' := [(4, [], .bool ((decide (q ≥ (0 : Int))) && (decide (q < (D.last.length : Int)))))]) (nd := (fun S => [((.bool (decide (q ≥ (0 : Int))) : Value) = .bool true → (∀ w1, S w1 → w1.cell? ⟨m.d, 3, none⟩ = some (.slice (some ⟨m.lb, 0, none⟩) D.last.length D.last.length)))])) (fun _ => by kernel_rfl) ⟨(fun g0 => have q0 : (q ≥ (0 : Int)) := (of_decide_eq_true (boolV g0)); (fun w1 h => h.rcell 0 rfl rfl)), trivial⟩ ?_
  refine Cfg.ret rfl (rs := [.tmp 4]) rfl [.bool ((decide (q ≥ (0 : Int))) && (decide (q < (D.last.length : Int))))] ⟨by kernel_rfl, trivial⟩ (fun w1 hp => ?_)
  exact ⟨by simp [resOf], hp.ext⟩

set_option maxRecDepth 100000 in
theorem dFault (m : DM) (x : MX) (D : DK) (q : Int) (w : World) (hR : Has w (dO D m x)) :
    Calls Try.prog 22 #[.pointer (some ⟨m.d, 0, none⟩), .int .i64 q] w fun e w' => e = .returned (.int .i64 (fltF D q)) ∧ Ext [] w w' := by
  refine enter (vs := [.pointer (some ⟨m.d, 0, none⟩), .int .i64 q]) [] [(m.d, .cells #[.int .i64 D.fuse, .int .i64 D.steps, .bool D.down, .slice (some ⟨m.lb, 0, none⟩) D.last.length D.last.length, .map (some m.mb)] 60 (0, 0)), (m.lb, .cells ((rows D.last).toArray) 33 (0, 0)), (m.mb, .map x.1 x.2)] [] Try.func22 rfl (by kernel_rfl) (HP.ofHas hR) ?_
  refine Cfg.reg rfl [0, 1] [] (Γ' := [(0, [], .pointer (some ⟨m.d, 0, none⟩)), (1, [], .int .i64 q)]) (nd := (fun _ => [])) (fun _ => by kernel_rfl) trivial ?_
  refine Cfg.reg rfl [0, 1, 5] [] (Γ' := [(5, [], .bool false), (0, [], .pointer (some ⟨m.d, 0, none⟩)), (1, [], .int .i64 q)]) (nd := (fun _ => [])) (fun _ => by kernel_rfl) trivial ?_
  refine Cfg.condF rfl (b := false) (by kernel_rfl) rfl ?_
  refine Cfg.reg rfl [0, 1, 8] [(0, false, none), (0, false, none), (0, false, none), (0, false, none), (0, false, some (.bool D.down))] (Γ' := [(8, [], .bool D.down), (0, [], .pointer (some ⟨m.d, 0, none⟩)), (1, [], .int .i64 q)]) (nd := (fun S => [(∀ w1, S w1 → w1.cell? ⟨m.d, 2, none⟩ = some (.bool D.down))])) (fun _ => by kernel_rfl) ⟨(fun w1 h => h.rcell 0 rfl rfl), trivial⟩ ?_
  refine Cfg.cond rfl (b := D.down) (by kernel_rfl) (fun c2r => ?_) (fun c2r => ?_)
  · have c2 : (D.down = true) := c2r
    refine Cfg.reg rfl [4] [] (Γ' := [(4, [], .int .i64 13)]) (nd := (fun _ => [])) (fun _ => by kernel_rfl) trivial ?_
    refine Cfg.ret rfl (rs := [.tmp 4]) rfl [.int .i64 13] ⟨by kernel_rfl, trivial⟩ (fun w1 hp => ?_)
    have hx : fltF D q = 13 := if_pos c2
    exact ⟨by rw [hx]; rfl, hp.ext⟩
  · have c2 : (D.down = false) := c2r
    refine Cfg.begL rfl ?_
    refine CfgL.pure 4 [] none (Γ' := [(18, [], .int .i64 q), (17, [], .pointer (some ⟨m.d, 3, none⟩)), (16, [], .pointer (some ⟨m.d, 0, none⟩)), (15, [], .pointer (some ⟨m.d, 0, none⟩)), (8, [], .bool D.down), (0, [], .pointer (some ⟨m.d, 0, none⟩)), (1, [], .int .i64 q)]) (nd := (fun _ => [])) (by kernel_rfl) (fun _ => by kernel_rfl) trivial ?_
    refine CfgL.eff (o := _) rfl (by kernel_rfl) (by kernel_rfl) (Eff.callA (vs := [.pointer (some ⟨m.d, 3, none⟩), .int .i64 q]) (.bool (decide (0 ≤ q ∧ q < (D.last.length : Int)))) rfl Try.func26 rfl rfl (by kernel_rfl) (fun w1 h => dThere m x D q w1 (h.hasR (fun e he => he)))) ?_
    rintro ⟨⟩ -
    refine CfgL.pure 2 [] (some [14]) (Γ' := [(14, [], .bool (!(decide (0 ≤ q ∧ q < (D.last.length : Int)))))]) (nd := (fun _ => [])) (by kernel_rfl) (fun _ => by kernel_rfl) trivial ?_
    refine CfgL.done rfl ?_
    refine Cfg.cond rfl (b := (!(decide (0 ≤ q ∧ q < (D.last.length : Int))))) (by kernel_rfl) (fun c3r => ?_) (fun c3r => ?_)
    · have c3 : (¬ (0 ≤ q ∧ q < (D.last.length : Int))) := (of_decide_eq_false (notT c3r))
      refine Cfg.reg rfl [4] [] (Γ' := [(4, [], .int .i64 2)]) (nd := (fun _ => [])) (fun _ => by kernel_rfl) trivial ?_
      refine Cfg.ret rfl (rs := [.tmp 4]) rfl [.int .i64 2] ⟨by kernel_rfl, trivial⟩ (fun w1 hp => ?_)
      have hx : fltF D q = 2 := by unfold fltF; rw [if_neg (by simp [c2]), if_neg c3]
      exact ⟨by rw [hx]; rfl, hp.ext⟩
    · have c3 : (0 ≤ q ∧ q < (D.last.length : Int)) := (of_decide_eq_true (notF c3r))
      refine Cfg.reg rfl [4] [] (Γ' := [(4, [], .int .i64 0)]) (nd := (fun _ => [])) (fun _ => by kernel_rfl) trivial ?_
      refine Cfg.ret rfl (rs := [.tmp 4]) rfl [.int .i64 0] ⟨by kernel_rfl, trivial⟩ (fun w1 hp => ?_)
      have hx : fltF D q = 0 := by unfold fltF; rw [if_neg (by simp [c2]), if_pos c3]
      exact ⟨by rw [hx]; rfl, hp.ext⟩

set_option maxRecDepth 100000 in
theorem dBlock (m : DM) (x : MX) (D : DK) (q : Int) (w : World) (hg : DG D) (hmo : MapOk x.1 x.2 (wv2 D.wait)) (hq : 0 ≤ q ∧ q < (D.last.length : Int)) (hR : Has w (dO D m x)) :
    Calls Try.prog 29 #[.pointer (some ⟨m.d, 3, none⟩), .int .i64 q] w fun e w' => e = .returned (.agg (bv (shown D q))) ∧ Ext [] w w' := by
  have hn := hg.n
  refine enter (vs := [.pointer (some ⟨m.d, 3, none⟩), .int .i64 q]) [] [(m.d, .cells #[.int .i64 D.fuse, .int .i64 D.steps, .bool D.down, .slice (some ⟨m.lb, 0, none⟩) D.last.length D.last.length, .map (some m.mb)] 60 (0, 0)), (m.lb, .cells ((rows D.last).toArray) 33 (0, 0)), (m.mb, .map x.1 x.2)] [] Try.func29 rfl (by kernel_rfl) (HP.ofHas hR) ?_
  refine Cfg.begL rfl ?_
  refine CfgL.eff (o := _) rfl (by kernel_rfl) (by kernel_rfl) (Eff.alloc (z := (.agg (bv (List.replicate 512 0)))) rfl (by kernel_rfl)) ?_
  rintro b1 ⟨hb1, nb1⟩
  refine CfgL.done rfl ?_
  refine Cfg.begL rfl ?_
  refine CfgL.pure 5 [(0, false, none), (0, false, none), (0, false, none), (0, false, some (.map (some m.mb)))] none (Γ' := [(12, [], .int .i64 q), (11, [], .map (some m.mb)), (10, [], .pointer (some ⟨m.d, 4, none⟩)), (9, [], .pointer (some ⟨m.d, 3, none⟩)), (8, [], .pointer (some ⟨m.d, 3, none⟩)), (4, [], .pointer (some ⟨b1, 0, none⟩)), (0, [], .pointer (some ⟨m.d, 3, none⟩)), (1, [], .int .i64 q)]) (nd := (fun S => [(∀ w1, S w1 → w1.cell? ⟨m.d, 4, none⟩ = some (.map (some m.mb)))])) (by kernel_rfl) (fun _ => by kernel_rfl) ⟨(fun w1 h => h.rcell 0 rfl rfl), trivial⟩ ?_
  refine CfgL.eff (o := _) rfl (by kernel_rfl) (by kernel_rfl) (Eff.waitGet (r := m.mb) (k := q) rfl rfl (by kernel_rfl) (by kernel_rfl) hmo (fun w1 h => h.ro (m.mb, _) (List.mem_of_getElem? (i := 2) rfl))) ?_
  rintro ⟨⟩ -
  refine CfgL.pure 3 [] none (Γ' := [(15, [], .bool (wget D.wait q).isSome), (14, [], .agg (bv ((wget D.wait q).getD zb))), (7, [], .tuple #[.agg (bv ((wget D.wait q).getD zb)), .bool (wget D.wait q).isSome]), (13, [], .tuple #[.agg (bv ((wget D.wait q).getD zb)), .bool (wget D.wait q).isSome]), (12, [], .int .i64 q), (11, [], .map (some m.mb)), (10, [], .pointer (some ⟨m.d, 4, none⟩)), (9, [], .pointer (some ⟨m.d, 3, none⟩)), (8, [], .pointer (some ⟨m.d, 3, none⟩)), (4, [], .pointer (some ⟨b1, 0, none⟩)), (0, [], .pointer (some ⟨m.d, 3, none⟩)), (1, [], .int .i64 q)]) (nd := (fun _ => [])) (by kernel_rfl) (fun _ => by kernel_rfl) trivial ?_
  refine CfgL.eff (o := _) rfl (by kernel_rfl) (by kernel_rfl) (Eff.alloc (z := (.agg (bv (List.replicate 512 0)))) rfl (by kernel_rfl)) ?_
  rintro b2 ⟨hb2, nb2⟩
  refine CfgL.eff (o := _) rfl (by kernel_rfl) (by kernel_rfl) (Eff.storeN (b := b2) (off := 0) (vs := (bv ((wget D.wait q).getD zb))) (n := 512) rfl (by kernel_rfl) (by kernel_rfl) (by kernel_rfl) ((bv_size _).trans (getO_len hg _)) (all_bv _) 0 (cs := (bv (List.replicate 512 0))) (e := 33) (by kernel_rfl) (by rw [zsz512]; omega)) ?_
  rintro ⟨⟩ -
  refine CfgL.setO (O' := [(b2, .cells (bv ((wget D.wait q).getD zb)) 33 (0, 0)), (b1, .cells (bv (List.replicate 512 0)) 33 (0, 0))]) (congrArg (fun (xq : Array Value) => ([(b2, .cells xq 33 (0, 0)), (b1, .cells (bv (List.replicate 512 0)) 33 (0, 0))] : List (Nat × Obj))) (spl_all (((bv_size _).trans (getO_len hg _)).trans zsz512.symm))) ?_
  refine CfgL.pure 1 [] (some [0, 1, 4, 5, 6]) (Γ' := [(6, [], .bool (wget D.wait q).isSome), (5, [], .pointer (some ⟨b2, 0, none⟩)), (4, [], .pointer (some ⟨b1, 0, none⟩)), (0, [], .pointer (some ⟨m.d, 3, none⟩)), (1, [], .int .i64 q)]) (nd := (fun _ => [])) (by kernel_rfl) (fun _ => by kernel_rfl) trivial ?_
  refine CfgL.done rfl ?_
  refine Cfg.reg rfl [0, 1, 4, 5, 16] [] (Γ' := [(16, [], .bool (wget D.wait q).isSome), (5, [], .pointer (some ⟨b2, 0, none⟩)), (4, [], .pointer (some ⟨b1, 0, none⟩)), (0, [], .pointer (some ⟨m.d, 3, none⟩)), (1, [], .int .i64 q)]) (nd := (fun _ => [])) (fun _ => by kernel_rfl) trivial ?_
  refine Cfg.cond rfl (b := (wget D.wait q).isSome) (by kernel_rfl) (fun c1r => ?_) (fun c1r => ?_)
  · have c1 : ((wget D.wait q).isSome = true) := c1r
    refine Cfg.begL rfl ?_
    refine CfgL.pure 1 [(0, false, some (.agg (bv ((wget D.wait q).getD zb))))] none (Γ' := [(17, [], .agg (bv ((wget D.wait q).getD zb))), (16, [], .bool (wget D.wait q).isSome), (5, [], .pointer (some ⟨b2, 0, none⟩)), (4, [], .pointer (some ⟨b1, 0, none⟩)), (0, [], .pointer (some ⟨m.d, 3, none⟩)), (1, [], .int .i64 q)]) (nd := (fun S => [(∀ w1, S w1 → (loadVar 33 ⟨b2, 0, none⟩).run Try.prog w1 = .ok (.agg (bv ((wget D.wait q).getD zb))) w1)])) (by kernel_rfl) (fun _ => by kernel_rfl) ⟨(fun w1 h => h.oload 0 rfl Try.underlying33 rfl (n := 512) (by kernel_rfl) ((bv_size _).trans (getO_len hg _))), trivial⟩ ?_
    refine CfgL.eff (o := _) rfl (by kernel_rfl) (by kernel_rfl) (Eff.storeN (b := b1) (off := 0) (vs := (bv ((wget D.wait q).getD zb))) (n := 512) rfl (by kernel_rfl) (by kernel_rfl) (by kernel_rfl) ((bv_size _).trans (getO_len hg _)) (all_bv _) 1 (cs := (bv (List.replicate 512 0))) (e := 33) (by kernel_rfl) (by rw [zsz512]; omega)) ?_
    rintro ⟨⟩ -
    refine CfgL.setO (O' := [(b2, .cells (bv ((wget D.wait q).getD zb)) 33 (0, 0)), (b1, .cells (bv ((wget D.wait q).getD zb)) 33 (0, 0))]) (congrArg (fun (xq : Array Value) => ([(b2, .cells (bv ((wget D.wait q).getD zb)) 33 (0, 0)), (b1, .cells xq 33 (0, 0))] : List (Nat × Obj))) (spl_all (((bv_size _).trans (getO_len hg _)).trans zsz512.symm))) ?_
    refine CfgL.done rfl ?_
    refine Conv.cfg (Γ' := [(4, [], .pointer (some ⟨b1, 0, none⟩))]) (Conv.mk (by kernel_rfl)) ?_
    refine Cfg.ret rfl (rs := [.cell 4 33]) rfl [.agg (bv ((wget D.wait q).getD zb))] ⟨⟨_, by kernel_rfl, (fun w1 h => h.oload 1 rfl Try.underlying33 rfl (n := 512) (by kernel_rfl) ((bv_size _).trans (getO_len hg _)))⟩, trivial⟩ (fun w1 hp => ?_)
    have hx : (wget D.wait q).getD zb = shown D q := by unfold shown; revert c1; cases wget D.wait q <;> simp
    exact ⟨by rw [hx]; rfl, hp.ext⟩
  · have c1 : ((wget D.wait q).isSome = false) := c1r
    refine Cfg.begL rfl ?_
    refine CfgL.pure 7 [(0, false, none), (0, false, none), (0, false, none), (0, false, some (.slice (some ⟨m.lb, 0, none⟩) D.last.length D.last.length)), (0, false, none), (0, false, none), (0, false, some (.agg (bv (D.last.getD ((q).toNat) zb))))] none (Γ' := [(24, [], .agg (bv (D.last.getD ((q).toNat) zb))), (23, [], .pointer (some ⟨m.lb, ((q).toNat * 512), none⟩)), (22, [], .int .i64 q), (21, [], .slice (some ⟨m.lb, 0, none⟩) D.last.length D.last.length), (20, [], .pointer (some ⟨m.d, 3, none⟩)), (19, [], .pointer (some ⟨m.d, 3, none⟩)), (18, [], .pointer (some ⟨m.d, 3, none⟩)), (16, [], .bool (wget D.wait q).isSome), (5, [], .pointer (some ⟨b2, 0, none⟩)), (4, [], .pointer (some ⟨b1, 0, none⟩)), (0, [], .pointer (some ⟨m.d, 3, none⟩)), (1, [], .int .i64 q)]) (nd := (fun S => [(∀ w1, S w1 → w1.cell? ⟨m.d, 3, none⟩ = some (.slice (some ⟨m.lb, 0, none⟩) D.last.length D.last.length)), (0 ≤ q ∧ q < (D.last.length : Int)), (∀ w1, S w1 → (loadVar 33 ⟨m.lb, ((q).toNat * 512), none⟩).run Try.prog w1 = .ok (.agg (bv (D.last.getD ((q).toNat) zb))) w1)])) (by kernel_rfl) (fun _ => by kernel_rfl) ⟨(fun w1 h => h.rcell 0 rfl rfl), (by omega), (fun w1 h => load_bytes Try.underlying33 rfl (by kernel_rfl) (hg.w.at' _) (fun j hj => sect_cell (n := 0) hg.w (h.ro _ (List.mem_of_getElem? (i := 1) rfl)) rfl (by omega) j hj)), trivial⟩ ?_
    refine CfgL.eff (o := _) rfl (by kernel_rfl) (by kernel_rfl) (Eff.storeN (b := b1) (off := 0) (vs := (bv (D.last.getD ((q).toNat) zb))) (n := 512) rfl (by kernel_rfl) (by kernel_rfl) (by kernel_rfl) ((bv_size _).trans (hg.w.at' _)) (all_bv _) 1 (cs := (bv (List.replicate 512 0))) (e := 33) (by kernel_rfl) (by rw [zsz512]; omega)) ?_
    rintro ⟨⟩ -
    refine CfgL.setO (O' := [(b2, .cells (bv ((wget D.wait q).getD zb)) 33 (0, 0)), (b1, .cells (bv (D.last.getD ((q).toNat) zb)) 33 (0, 0))]) (congrArg (fun (xq : Array Value) => ([(b2, .cells (bv ((wget D.wait q).getD zb)) 33 (0, 0)), (b1, .cells xq 33 (0, 0))] : List (Nat × Obj))) (spl_all (((bv_size _).trans (hg.w.at' _)).trans zsz512.symm))) ?_
    refine CfgL.done rfl ?_
    refine Conv.cfg (Γ' := [(4, [], .pointer (some ⟨b1, 0, none⟩))]) (Conv.mk (by kernel_rfl)) ?_
    refine Cfg.ret rfl (rs := [.cell 4 33]) rfl [.agg (bv (D.last.getD ((q).toNat) zb))] ⟨⟨_, by kernel_rfl, (fun w1 h => h.oload 1 rfl Try.underlying33 rfl (n := 512) (by kernel_rfl) ((bv_size _).trans (hg.w.at' _)))⟩, trivial⟩ (fun w1 hp => ?_)
    have hx : D.last.getD q.toNat zb = shown D q := by unfold shown; revert c1; cases wget D.wait q <;> simp
    exact ⟨by rw [hx]; rfl, hp.ext⟩

set_option maxRecDepth 100000 in
theorem dRead (m : DM) (x : MX) (D : DK) (q : Int) (w : World) (hg : DG D) (hmo : MapOk x.1 x.2 (wv2 D.wait)) (hR : Has w (dO D m x)) :
    Calls Try.prog 13 #[.pointer (some ⟨m.d, 0, none⟩), .int .i64 q] w fun e w' => e = .returned (.tuple #[.agg (bv (readF D q)), .int .i64 (fltF D q)]) ∧ Ext [] w w' := by
  have hn := hg.n
  refine enter (vs := [.pointer (some ⟨m.d, 0, none⟩), .int .i64 q]) [] [(m.d, .cells #[.int .i64 D.fuse, .int .i64 D.steps, .bool D.down, .slice (some ⟨m.lb, 0, none⟩) D.last.length D.last.length, .map (some m.mb)] 60 (0, 0)), (m.lb, .cells ((rows D.last).toArray) 33 (0, 0)), (m.mb, .map x.1 x.2)] [] Try.func13 rfl (by kernel_rfl) (HP.ofHas hR) ?_
  refine Cfg.begL rfl ?_
  refine CfgL.eff (o := _) rfl (by kernel_rfl) (by kernel_rfl) (Eff.alloc (z := (.agg (bv (List.replicate 512 0)))) rfl (by kernel_rfl)) ?_
  rintro b1 ⟨hb1, nb1⟩
  refine CfgL.pure 1 [] (some [0, 1, 4]) (Γ' := [(4, [], .pointer (some ⟨b1, 0, none⟩)), (0, [], .pointer (some ⟨m.d, 0, none⟩)), (1, [], .int .i64 q)]) (nd := (fun _ => [])) (by kernel_rfl) (fun _ => by kernel_rfl) trivial ?_
  refine CfgL.done rfl ?_
  refine Cfg.begL rfl ?_
  refine CfgL.pure 2 [] none (Γ' := [(8, [], .int .i64 q), (7, [], .pointer (some ⟨m.d, 0, none⟩)), (4, [], .pointer (some ⟨b1, 0, none⟩)), (0, [], .pointer (some ⟨m.d, 0, none⟩)), (1, [], .int .i64 q)]) (nd := (fun _ => [])) (by kernel_rfl) (fun _ => by kernel_rfl) trivial ?_
  refine CfgL.eff (o := _) rfl (by kernel_rfl) (by kernel_rfl) (Eff.callA (vs := [.pointer (some ⟨m.d, 0, none⟩), .int .i64 q]) (.int .i64 (fltF D q)) rfl Try.func22 rfl rfl (by kernel_rfl) (fun w1 h => dFault m x D q w1 (h.hasR (fun e he => he)))) ?_
  rintro ⟨⟩ -
  refine CfgL.pure 1 [] (some [0, 1, 4, 6]) (Γ' := [(6, [], .int .i64 (fltF D q)), (4, [], .pointer (some ⟨b1, 0, none⟩)), (0, [], .pointer (some ⟨m.d, 0, none⟩)), (1, [], .int .i64 q)]) (nd := (fun _ => [])) (by kernel_rfl) (fun _ => by kernel_rfl) trivial ?_
  refine CfgL.done rfl ?_
  refine Cfg.reg rfl [0, 1, 4, 6, 11] [] (Γ' := [(11, [], .bool ((fltF D q) != (0 : Int))), (6, [], .int .i64 (fltF D q)), (4, [], .pointer (some ⟨b1, 0, none⟩)), (0, [], .pointer (some ⟨m.d, 0, none⟩)), (1, [], .int .i64 q)]) (nd := (fun _ => [])) (fun _ => by kernel_rfl) trivial ?_
  refine Cfg.cond rfl (b := ((fltF D q) != (0 : Int))) (by kernel_rfl) (fun c1r => ?_) (fun c1r => ?_)
  · have c1 : ((fltF D q) ≠ (0 : Int)) := (bne_iff_ne.1 c1r)
    refine Cfg.begL rfl ?_
    refine CfgL.pure 2 [(0, false, some (.agg (bv (List.replicate 512 0))))] none (Γ' := [(13, [], .int .i64 (fltF D q)), (12, [], .agg (bv (List.replicate 512 0))), (11, [], .bool ((fltF D q) != (0 : Int))), (6, [], .int .i64 (fltF D q)), (4, [], .pointer (some ⟨b1, 0, none⟩)), (0, [], .pointer (some ⟨m.d, 0, none⟩)), (1, [], .int .i64 q)]) (nd := (fun S => [(∀ w1, S w1 → (Instr.build 33 #[]).run Try.prog w1 = .ok (.agg (bv (List.replicate 512 0))) w1)])) (by kernel_rfl) (fun _ => by kernel_rfl) ⟨(fun _ _ => by kernel_rfl), trivial⟩ ?_
    refine CfgL.eff (o := _) rfl (by kernel_rfl) (by kernel_rfl) (Eff.storeN (b := b1) (off := 0) (vs := (bv (List.replicate 512 0))) (n := 512) rfl (by kernel_rfl) (by kernel_rfl) (by kernel_rfl) ((bv_size _).trans (List.length_replicate)) (all_bv _) 0 (cs := (bv (List.replicate 512 0))) (e := 33) (by kernel_rfl) (by rw [zsz512]; omega)) ?_
    rintro ⟨⟩ -
    refine CfgL.setO (O' := [(b1, .cells (bv (List.replicate 512 0)) 33 (0, 0))]) (congrArg (fun (xq : Array Value) => ([(b1, .cells xq 33 (0, 0))] : List (Nat × Obj))) (spl_all (((bv_size _).trans (List.length_replicate)).trans zsz512.symm))) ?_
    refine CfgL.pure 1 [] (some [4, 5]) (Γ' := [(5, [], .int .i64 (fltF D q)), (4, [], .pointer (some ⟨b1, 0, none⟩))]) (nd := (fun _ => [])) (by kernel_rfl) (fun _ => by kernel_rfl) trivial ?_
    refine CfgL.done rfl ?_
    refine Cfg.ret rfl (rs := [.cell 4 33, .tmp 5]) rfl [.agg (bv (List.replicate 512 0)), .int .i64 (fltF D q)] ⟨⟨_, by kernel_rfl, (fun w1 h => h.oload 0 rfl Try.underlying33 rfl (n := 512) (by kernel_rfl) ((bv_size _).trans (List.length_replicate)))⟩, by kernel_rfl, trivial⟩ (fun w1 hp => ?_)
    have hx : readF D q = List.replicate 512 0 := if_neg c1
    exact ⟨by rw [hx]; rfl, hp.ext⟩
  · have c1 : ((fltF D q) = (0 : Int)) := (bne_eq_false_iff_eq.1 c1r)
    refine Cfg.begL rfl ?_
    refine CfgL.pure 4 [] none (Γ' := [(17, [], .int .i64 q), (16, [], .pointer (some ⟨m.d, 3, none⟩)), (15, [], .pointer (some ⟨m.d, 0, none⟩)), (14, [], .pointer (some ⟨m.d, 0, none⟩)), (11, [], .bool ((fltF D q) != (0 : Int))), (6, [], .int .i64 (fltF D q)), (4, [], .pointer (some ⟨b1, 0, none⟩)), (0, [], .pointer (some ⟨m.d, 0, none⟩)), (1, [], .int .i64 q)]) (nd := (fun _ => [])) (by kernel_rfl) (fun _ => by kernel_rfl) trivial ?_
    refine CfgL.eff (o := _) rfl (by kernel_rfl) (by kernel_rfl) (Eff.callA (vs := [.pointer (some ⟨m.d, 3, none⟩), .int .i64 q]) (.agg (bv (shown D q))) rfl Try.func29 rfl rfl (by kernel_rfl) (fun w1 h => dBlock m x D q w1 hg hmo (fltF_in c1) (h.hasR (fun e he => he)))) ?_
    rintro ⟨⟩ -
    refine CfgL.eff (o := _) rfl (by kernel_rfl) (by kernel_rfl) (Eff.storeN (b := b1) (off := 0) (vs := (bv (shown D q))) (n := 512) rfl (by kernel_rfl) (by kernel_rfl) (by kernel_rfl) ((bv_size _).trans (shown_len hg _)) (all_bv _) 0 (cs := (bv (List.replicate 512 0))) (e := 33) (by kernel_rfl) (by rw [zsz512]; omega)) ?_
    rintro ⟨⟩ -
    refine CfgL.setO (O' := [(b1, .cells (bv (shown D q)) 33 (0, 0))]) (congrArg (fun (xq : Array Value) => ([(b1, .cells xq 33 (0, 0))] : List (Nat × Obj))) (spl_all (((bv_size _).trans (shown_len hg _)).trans zsz512.symm))) ?_
    refine CfgL.pure 1 [] (some [4, 5]) (Γ' := [(5, [], .int .i64 0), (4, [], .pointer (some ⟨b1, 0, none⟩))]) (nd := (fun _ => [])) (by kernel_rfl) (fun _ => by kernel_rfl) trivial ?_
    refine CfgL.done rfl ?_
    refine Cfg.ret rfl (rs := [.cell 4 33, .tmp 5]) rfl [.agg (bv (shown D q)), .int .i64 0] ⟨⟨_, by kernel_rfl, (fun w1 h => h.oload 0 rfl Try.underlying33 rfl (n := 512) (by kernel_rfl) ((bv_size _).trans (shown_len hg _)))⟩, by kernel_rfl, trivial⟩ (fun w1 hp => ?_)
    have c1x : fltF D q = 0 := by omega
    have hx : readF D q = shown D q := if_pos c1x
    exact ⟨by rw [hx, c1x]; rfl, hp.ext⟩

set_option maxRecDepth 100000 in
theorem dLasts (m : DM) (x : MX) (D : DK) (q : Int) (w : World) (hg : DG D) (hmo : MapOk x.1 x.2 (wv2 D.wait)) (hR : Has w (dO D m x)) :
    Calls Try.prog 10 #[.pointer (some ⟨m.d, 0, none⟩), .int .i64 q] w fun e w' => e = .returned (.agg (bv (lastsF D q))) ∧ Ext [] w w' := by
  have hn := hg.n
  refine enter (vs := [.pointer (some ⟨m.d, 0, none⟩), .int .i64 q]) [] [(m.d, .cells #[.int .i64 D.fuse, .int .i64 D.steps, .bool D.down, .slice (some ⟨m.lb, 0, none⟩) D.last.length D.last.length, .map (some m.mb)] 60 (0, 0)), (m.lb, .cells ((rows D.last).toArray) 33 (0, 0)), (m.mb, .map x.1 x.2)] [] Try.func10 rfl (by kernel_rfl) (HP.ofHas hR) ?_
  refine Cfg.begL rfl ?_
  refine CfgL.eff (o := _) rfl (by kernel_rfl) (by kernel_rfl) (Eff.alloc (z := (.agg (bv (List.replicate 512 0)))) rfl (by kernel_rfl)) ?_
  rintro b1 ⟨hb1, nb1⟩
  refine CfgL.done rfl ?_
  refine Cfg.begL rfl ?_
  refine CfgL.pure 7 [(0, false, none), (0, false, none), (0, false, none), (1, false, none), (1, false, none), (1, false, none), (1, false, none)] none (Γ' := [(11, [], .int .i64 q), (10, [], .pointer (some ⟨m.d, 3, none⟩)), (9, [], .pointer (some ⟨m.d, 0, none⟩)), (8, [], .pointer (some ⟨m.d, 0, none⟩)), (7, [], .bool false), (6, [], .bool false), (5, [], .pointer (some ⟨m.d, 0, none⟩)), (4, [], .pointer (some ⟨b1, 0, none⟩)), (0, [], .pointer (some ⟨m.d, 0, none⟩)), (1, [], .int .i64 q)]) (nd := (fun _ => [((.bool false : Value) = .bool false), ((.bool false : Value) = .bool false), ((.bool false : Value) = .bool false), ((.bool false : Value) = .bool false)])) (by kernel_rfl) (fun _ => by kernel_rfl) ⟨rfl, rfl, rfl, rfl, trivial⟩ ?_
  refine CfgL.eff (o := _) rfl (by kernel_rfl) (by kernel_rfl) (Eff.callA (vs := [.pointer (some ⟨m.d, 3, none⟩), .int .i64 q]) (.bool (decide (0 ≤ q ∧ q < (D.last.length : Int)))) rfl Try.func26 rfl rfl (by kernel_rfl) (fun w1 h => dThere m x D q w1 (h.hasR (fun e he => he)))) ?_
  rintro ⟨⟩ -
  refine CfgL.pure 2 [(1, false, none)] (some [0, 1, 4, 14]) (Γ' := [(14, [], .bool (!(decide (0 ≤ q ∧ q < (D.last.length : Int))))), (4, [], .pointer (some ⟨b1, 0, none⟩)), (0, [], .pointer (some ⟨m.d, 0, none⟩)), (1, [], .int .i64 q)]) (nd := (fun _ => [((.bool false : Value) = .bool false)])) (by kernel_rfl) (fun _ => by kernel_rfl) ⟨rfl, trivial⟩ ?_
  refine CfgL.done rfl ?_
  refine Cfg.cond rfl (b := (!(decide (0 ≤ q ∧ q < (D.last.length : Int))))) (by kernel_rfl) (fun c1r => ?_) (fun c1r => ?_)
  · have c1 : (¬ (0 ≤ q ∧ q < (D.last.length : Int))) := (of_decide_eq_false (notT c1r))
    refine Cfg.begL rfl ?_
    refine CfgL.pure 1 [(0, false, some (.agg (bv (List.replicate 512 0))))] none (Γ' := [(15, [], .agg (bv (List.replicate 512 0))), (14, [], .bool (!(decide (0 ≤ q ∧ q < (D.last.length : Int))))), (4, [], .pointer (some ⟨b1, 0, none⟩)), (0, [], .pointer (some ⟨m.d, 0, none⟩)), (1, [], .int .i64 q)]) (nd := (fun S => [(∀ w1, S w1 → (Instr.build 33 #[]).run Try.prog w1 = .ok (.agg (bv (List.replicate 512 0))) w1)])) (by kernel_rfl) (fun _ => by kernel_rfl) ⟨(fun _ _ => by kernel_rfl), trivial⟩ ?_
    refine CfgL.eff (o := _) rfl (by kernel_rfl) (by kernel_rfl) (Eff.storeN (b := b1) (off := 0) (vs := (bv (List.replicate 512 0))) (n := 512) rfl (by kernel_rfl) (by kernel_rfl) (by kernel_rfl) ((bv_size _).trans (List.length_replicate)) (all_bv _) 0 (cs := (bv (List.replicate 512 0))) (e := 33) (by kernel_rfl) (by rw [zsz512]; omega)) ?_
    rintro ⟨⟩ -
    refine CfgL.setO (O' := [(b1, .cells (bv (List.replicate 512 0)) 33 (0, 0))]) (congrArg (fun (xq : Array Value) => ([(b1, .cells xq 33 (0, 0))] : List (Nat × Obj))) (spl_all (((bv_size _).trans (List.length_replicate)).trans zsz512.symm))) ?_
    refine CfgL.done rfl ?_
    refine Conv.cfg (Γ' := [(4, [], .pointer (some ⟨b1, 0, none⟩))]) (Conv.mk (by kernel_rfl)) ?_
    refine Cfg.ret rfl (rs := [.cell 4 33]) rfl [.agg (bv (List.replicate 512 0))] ⟨⟨_, by kernel_rfl, (fun w1 h => h.oload 0 rfl Try.underlying33 rfl (n := 512) (by kernel_rfl) ((bv_size _).trans (List.length_replicate)))⟩, trivial⟩ (fun w1 hp => ?_)
    have hx : lastsF D q = List.replicate 512 0 := if_neg (by first | exact c2 | omega)
    exact ⟨by rw [hx]; rfl, hp.ext⟩
  · have c1 : (0 ≤ q ∧ q < (D.last.length : Int)) := (of_decide_eq_true (notF c1r))
    refine Cfg.begL rfl ?_
    refine CfgL.pure 8 [(0, false, none), (0, false, none), (0, false, none), (0, false, none), (0, false, some (.slice (some ⟨m.lb, 0, none⟩) D.last.length D.last.length)), (0, false, none), (0, false, none), (0, false, some (.agg (bv (D.last.getD ((q).toNat) zb))))] none (Γ' := [(23, [], .agg (bv (D.last.getD ((q).toNat) zb))), (22, [], .pointer (some ⟨m.lb, ((q).toNat * 512), none⟩)), (21, [], .int .i64 q), (20, [], .slice (some ⟨m.lb, 0, none⟩) D.last.length D.last.length), (19, [], .pointer (some ⟨m.d, 3, none⟩)), (18, [], .pointer (some ⟨m.d, 3, none⟩)), (17, [], .pointer (some ⟨m.d, 0, none⟩)), (16, [], .pointer (some ⟨m.d, 0, none⟩)), (14, [], .bool (!(decide (0 ≤ q ∧ q < (D.last.length : Int))))), (4, [], .pointer (some ⟨b1, 0, none⟩)), (0, [], .pointer (some ⟨m.d, 0, none⟩)), (1, [], .int .i64 q)]) (nd := (fun S => [(∀ w1, S w1 → w1.cell? ⟨m.d, 3, none⟩ = some (.slice (some ⟨m.lb, 0, none⟩) D.last.length D.last.length)), (0 ≤ q ∧ q < (D.last.length : Int)), (∀ w1, S w1 → (loadVar 33 ⟨m.lb, ((q).toNat * 512), none⟩).run Try.prog w1 = .ok (.agg (bv (D.last.getD ((q).toNat) zb))) w1)])) (by kernel_rfl) (fun _ => by kernel_rfl) ⟨(fun w1 h => h.rcell 0 rfl rfl), (by omega), (fun w1 h => load_bytes Try.underlying33 rfl (by kernel_rfl) (hg.w.at' _) (fun j hj => sect_cell (n := 0) hg.w (h.ro _ (List.mem_of_getElem? (i := 1) rfl)) rfl (by omega) j hj)), trivial⟩ ?_
    refine CfgL.eff (o := _) rfl (by kernel_rfl) (by kernel_rfl) (Eff.storeN (b := b1) (off := 0) (vs := (bv (D.last.getD ((q).toNat) zb))) (n := 512) rfl (by kernel_rfl) (by kernel_rfl) (by kernel_rfl) ((bv_size _).trans (hg.w.at' _)) (all_bv _) 0 (cs := (bv (List.replicate 512 0))) (e := 33) (by kernel_rfl) (by rw [zsz512]; omega)) ?_
    rintro ⟨⟩ -
    refine CfgL.setO (O' := [(b1, .cells (bv (D.last.getD ((q).toNat) zb)) 33 (0, 0))]) (congrArg (fun (xq : Array Value) => ([(b1, .cells xq 33 (0, 0))] : List (Nat × Obj))) (spl_all (((bv_size _).trans (hg.w.at' _)).trans zsz512.symm))) ?_
    refine CfgL.done rfl ?_
    refine Conv.cfg (Γ' := [(4, [], .pointer (some ⟨b1, 0, none⟩))]) (Conv.mk (by kernel_rfl)) ?_
    refine Cfg.ret rfl (rs := [.cell 4 33]) rfl [.agg (bv (D.last.getD ((q).toNat) zb))] ⟨⟨_, by kernel_rfl, (fun w1 h => h.oload 0 rfl Try.underlying33 rfl (n := 512) (by kernel_rfl) ((bv_size _).trans (hg.w.at' _)))⟩, trivial⟩ (fun w1 hp => ?_)
    have hx : lastsF D q = D.last.getD q.toNat zb := if_pos (by first | exact c2 | omega)
    exact ⟨by rw [hx]; rfl, hp.ext⟩

set_option maxRecDepth 100000 in
theorem mKeys (r : Nat) (w : World) :
    Calls Try.prog 37 #[.map (some r)] w fun e w' => ∃ b : Nat, True ∧ e = .returned (.func (.func 41) #[] #[.pointer (some ⟨b, 0, none⟩)]) ∧ w.heap.size ≤ b ∧ w'.heap[b]? = some (.cells #[.map (some r)] 56 (0, 0)) ∧ Ext [] w w' := by
  refine enter (vs := [.map (some r)]) [] [] [] Try.func37 rfl (by kernel_rfl) (HP.start w) ?_
  refine Cfg.begL rfl ?_
  refine CfgL.eff (o := _) rfl (by kernel_rfl) (by kernel_rfl) (Eff.box (v := .map (some r)) rfl (by kernel_rfl)) ?_
  rintro b1 ⟨hb1, nb1⟩
  refine CfgL.pure 1 [] (some [1]) (Γ' := [(1, [], .pointer (some ⟨b1, 0, none⟩))]) (nd := (fun _ => [])) (by kernel_rfl) (fun _ => by kernel_rfl) trivial ?_
  refine CfgL.done rfl ?_
  refine Cfg.reg rfl [2] [] (Γ' := [(2, [], .func (.func 41) #[] #[.pointer (some ⟨b1, 0, none⟩)])]) (nd := (fun _ => [])) (fun _ => by kernel_rfl) trivial ?_
  refine Cfg.ret rfl (rs := [.tmp 2]) rfl [.func (.func 41) #[] #[.pointer (some ⟨b1, 0, none⟩)]] ⟨by kernel_rfl, trivial⟩ (fun w1 hp => ?_)
  exact ⟨b1, trivial, rfl, hb1, hp.own (b1, _) (List.mem_cons_self ..), hp.ext⟩

end Go.Proofs.Ytnoipbbcpiaemaa
