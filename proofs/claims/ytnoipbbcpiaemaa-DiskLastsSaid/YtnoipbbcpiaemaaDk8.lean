/- the document's disk: what it says. -/
import Derived.Test.YtnoipbbcpiaemaaDk7
namespace Go.Proofs.Ytnoipbbcpiaemaa
open K
set_option linter.unusedVariables false

set_option maxRecDepth 100000 in
theorem rRead (m : RM) (Q : RK) (q : Int) (w : World) (hg : RG Q) (hR : Has w (rO Q m)) :
    Calls Try.prog 31 #[.pointer (some ⟨m.r, 0, none⟩), .int .i64 q] w fun e w' => e = .returned (.tuple #[.agg (bv (rReadB Q q)), .int .i64 (rReadE Q q)]) ∧ Ext [] w w' := by
  have hn := hg.n
  have hsl := hg.sl
  have htl := hg.tl
  refine enter (vs := [.pointer (some ⟨m.r, 0, none⟩), .int .i64 q]) [] [(m.r, .cells #[.slice (some ⟨m.sb, 0, none⟩) Q.shown.length Q.shown.length, .slice (some ⟨m.lb, 0, none⟩) Q.last.length Q.last.length, .slice (some ⟨m.wb, 0, none⟩) Q.waits.length Q.waits.length, .int .i64 Q.done, .int .i64 Q.fuse, .bool Q.down] 51 (0, 0)), (m.sb, .cells ((rows Q.shown).toArray) 33 (0, 0)), (m.lb, .cells ((rows Q.last).toArray) 33 (0, 0)), (m.wb, .cells ((rb Q.waits).toArray) 4 (0, 0))] [] Try.func31 rfl (by kernel_rfl) (HP.ofHas hR) ?_
  refine Cfg.begL rfl ?_
  refine CfgL.eff (o := _) rfl (by kernel_rfl) (by kernel_rfl) (Eff.alloc (z := (.agg (bv (List.replicate 512 0)))) rfl (by kernel_rfl)) ?_
  rintro b1 ⟨hb1, nb1⟩
  refine CfgL.pure 1 [] (some [0, 1, 4]) (Γ' := [(4, [], .pointer (some ⟨b1, 0, none⟩)), (0, [], .pointer (some ⟨m.r, 0, none⟩)), (1, [], .int .i64 q)]) (nd := (fun _ => [])) (by kernel_rfl) (fun _ => by kernel_rfl) trivial ?_
  refine CfgL.done rfl ?_
  refine Cfg.reg rfl [0, 1, 4, 9] [(0, false, none), (0, false, none), (0, false, none), (0, false, some (.bool Q.down))] (Γ' := [(9, [], .bool Q.down), (4, [], .pointer (some ⟨b1, 0, none⟩)), (0, [], .pointer (some ⟨m.r, 0, none⟩)), (1, [], .int .i64 q)]) (nd := (fun S => [(∀ w1, S w1 → w1.cell? ⟨m.r, 5, none⟩ = some (.bool Q.down))])) (fun _ => by kernel_rfl) ⟨(fun w1 h => h.rcell 0 rfl rfl), trivial⟩ ?_
  refine Cfg.cond rfl (b := Q.down) (by kernel_rfl) (fun c1r => ?_) (fun c1r => ?_)
  · have c1 : (Q.down = true) := c1r
    refine Cfg.begL rfl ?_
    refine CfgL.pure 1 [(0, false, some (.agg (bv (List.replicate 512 0))))] none (Γ' := [(10, [], .agg (bv (List.replicate 512 0))), (9, [], .bool Q.down), (4, [], .pointer (some ⟨b1, 0, none⟩)), (0, [], .pointer (some ⟨m.r, 0, none⟩)), (1, [], .int .i64 q)]) (nd := (fun S => [(∀ w1, S w1 → (Instr.build 33 #[]).run Try.prog w1 = .ok (.agg (bv (List.replicate 512 0))) w1)])) (by kernel_rfl) (fun _ => by kernel_rfl) ⟨(fun _ _ => by kernel_rfl), trivial⟩ ?_
    refine CfgL.eff (o := _) rfl (by kernel_rfl) (by kernel_rfl) (Eff.storeN (b := b1) (off := 0) (vs := (bv (List.replicate 512 0))) (n := 512) rfl (by kernel_rfl) (by kernel_rfl) (by kernel_rfl) ((bv_size _).trans (List.length_replicate)) (all_bv _) 0 (cs := (bv (List.replicate 512 0))) (e := 33) (by kernel_rfl) (by rw [zsz512]; omega)) ?_
    rintro ⟨⟩ -
    refine CfgL.setO (O' := [(b1, .cells (bv (List.replicate 512 0)) 33 (0, 0))]) (congrArg (fun (xq : Array Value) => ([(b1, .cells xq 33 (0, 0))] : List (Nat × Obj))) (spl_all (((bv_size _).trans (List.length_replicate)).trans zsz512.symm))) ?_
    refine CfgL.pure 1 [] (some [4, 5]) (Γ' := [(5, [], .int .i64 13), (4, [], .pointer (some ⟨b1, 0, none⟩))]) (nd := (fun _ => [])) (by kernel_rfl) (fun _ => by kernel_rfl) trivial ?_
    refine CfgL.done rfl ?_
    refine Cfg.ret rfl (rs := [.cell 4 33, .tmp 5]) rfl [.agg (bv (List.replicate 512 0)), .int .i64 13] ⟨⟨_, by kernel_rfl, (fun w1 h => h.oload 0 rfl Try.underlying33 rfl (n := 512) (by kernel_rfl) ((bv_size _).trans (List.length_replicate)))⟩, by kernel_rfl, trivial⟩ (fun w1 hp => ?_)
    have hx : rReadE Q q = 13 := if_pos c1
    have hy : rReadB Q q = List.replicate 512 0 := by unfold rReadB; rw [hx, if_neg (by decide)]; rfl
    rw [hx, hy]
    exact ⟨rfl, hp.ext⟩
  · have c1 : (Q.down = false) := c1r
    refine Cfg.reg rfl [0, 1, 4, 21] [(0, false, none), (0, false, none), (0, false, none), (0, false, none), (0, false, none), (0, false, none), (0, false, none), (0, false, some (.slice (some ⟨m.lb, 0, none⟩) Q.last.length Q.last.length))] (Γ' := [(21, [], .bool ((decide (q < (0 : Int))) || (decide (q ≥ (Q.last.length : Int))))), (4, [], .pointer (some ⟨b1, 0, none⟩)), (0, [], .pointer (some ⟨m.r, 0, none⟩)), (1, [], .int .i64 q)]) (nd := (fun S => [((.bool (decide (q < (0 : Int))) : Value) = .bool false → (∀ w1, S w1 → w1.cell? ⟨m.r, 1, none⟩ = some (.slice (some ⟨m.lb, 0, none⟩) Q.last.length Q.last.length)))])) (fun _ => by kernel_rfl) ⟨(fun g0 => have q0 : (¬ (q < (0 : Int))) := (of_decide_eq_false (boolV g0)); (fun w1 h => h.rcell 0 rfl rfl)), trivial⟩ ?_
    refine Cfg.cond rfl (b := ((decide (q < (0 : Int))) || (decide (q ≥ (Q.last.length : Int))))) (by kernel_rfl) (fun c2r => ?_) (fun c2r => ?_)
    · have c2 : ((q < (0 : Int)) ∨ (q ≥ (Q.last.length : Int))) := ((orT c2r).elim (fun h => Or.inl (of_decide_eq_true h)) (fun h => Or.inr (of_decide_eq_true h)))
      refine Cfg.begL rfl ?_
      refine CfgL.pure 1 [(0, false, some (.agg (bv (List.replicate 512 0))))] none (Γ' := [(22, [], .agg (bv (List.replicate 512 0))), (21, [], .bool ((decide (q < (0 : Int))) || (decide (q ≥ (Q.last.length : Int))))), (4, [], .pointer (some ⟨b1, 0, none⟩)), (0, [], .pointer (some ⟨m.r, 0, none⟩)), (1, [], .int .i64 q)]) (nd := (fun S => [(∀ w1, S w1 → (Instr.build 33 #[]).run Try.prog w1 = .ok (.agg (bv (List.replicate 512 0))) w1)])) (by kernel_rfl) (fun _ => by kernel_rfl) ⟨(fun _ _ => by kernel_rfl), trivial⟩ ?_
      refine CfgL.eff (o := _) rfl (by kernel_rfl) (by kernel_rfl) (Eff.storeN (b := b1) (off := 0) (vs := (bv (List.replicate 512 0))) (n := 512) rfl (by kernel_rfl) (by kernel_rfl) (by kernel_rfl) ((bv_size _).trans (List.length_replicate)) (all_bv _) 0 (cs := (bv (List.replicate 512 0))) (e := 33) (by kernel_rfl) (by rw [zsz512]; omega)) ?_
      rintro ⟨⟩ -
      refine CfgL.setO (O' := [(b1, .cells (bv (List.replicate 512 0)) 33 (0, 0))]) (congrArg (fun (xq : Array Value) => ([(b1, .cells xq 33 (0, 0))] : List (Nat × Obj))) (spl_all (((bv_size _).trans (List.length_replicate)).trans zsz512.symm))) ?_
      refine CfgL.pure 1 [] (some [4, 5]) (Γ' := [(5, [], .int .i64 2), (4, [], .pointer (some ⟨b1, 0, none⟩))]) (nd := (fun _ => [])) (by kernel_rfl) (fun _ => by kernel_rfl) trivial ?_
      refine CfgL.done rfl ?_
      refine Cfg.ret rfl (rs := [.cell 4 33, .tmp 5]) rfl [.agg (bv (List.replicate 512 0)), .int .i64 2] ⟨⟨_, by kernel_rfl, (fun w1 h => h.oload 0 rfl Try.underlying33 rfl (n := 512) (by kernel_rfl) ((bv_size _).trans (List.length_replicate)))⟩, by kernel_rfl, trivial⟩ (fun w1 hp => ?_)
      have hx : rReadE Q q = 2 := by unfold rReadE; rw [if_neg (by simp [c1]), if_pos c2]
      have hy : rReadB Q q = List.replicate 512 0 := by unfold rReadB; rw [hx, if_neg (by decide)]; rfl
      rw [hx, hy]
      exact ⟨rfl, hp.ext⟩
    · have c2 : ((¬ (q < (0 : Int))) ∧ (¬ (q ≥ (Q.last.length : Int)))) := ⟨(of_decide_eq_false (orF1 c2r)), (of_decide_eq_false (orF2 c2r))⟩
      refine Cfg.begL rfl ?_
      refine CfgL.pure 7 [(0, false, none), (0, false, none), (0, false, none), (0, false, some (.slice (some ⟨m.sb, 0, none⟩) Q.shown.length Q.shown.length)), (0, false, none), (0, false, none), (0, false, some (.agg (bv (Q.shown.getD ((q).toNat) zb))))] none (Γ' := [(29, [], .agg (bv (Q.shown.getD ((q).toNat) zb))), (28, [], .pointer (some ⟨m.sb, ((q).toNat * 512), none⟩)), (27, [], .int .i64 q), (26, [], .slice (some ⟨m.sb, 0, none⟩) Q.shown.length Q.shown.length), (25, [], .pointer (some ⟨m.r, 0, none⟩)), (24, [], .pointer (some ⟨m.r, 0, none⟩)), (23, [], .pointer (some ⟨m.r, 0, none⟩)), (21, [], .bool ((decide (q < (0 : Int))) || (decide (q ≥ (Q.last.length : Int))))), (4, [], .pointer (some ⟨b1, 0, none⟩)), (0, [], .pointer (some ⟨m.r, 0, none⟩)), (1, [], .int .i64 q)]) (nd := (fun S => [(∀ w1, S w1 → w1.cell? ⟨m.r, 0, none⟩ = some (.slice (some ⟨m.sb, 0, none⟩) Q.shown.length Q.shown.length)), (0 ≤ q ∧ q < (Q.shown.length : Int)), (∀ w1, S w1 → (loadVar 33 ⟨m.sb, ((q).toNat * 512), none⟩).run Try.prog w1 = .ok (.agg (bv (Q.shown.getD ((q).toNat) zb))) w1)])) (by kernel_rfl) (fun _ => by kernel_rfl) ⟨(fun w1 h => h.rcell 0 rfl rfl), (by omega), (fun w1 h => load_bytes Try.underlying33 rfl (by kernel_rfl) (hg.ws.at' _) (fun j hj => sect_cell (n := 0) hg.ws (h.ro _ (List.mem_of_getElem? (i := 1) rfl)) rfl (by first | omega | (rw [List.length_set]; omega)) j hj)), trivial⟩ ?_
      refine CfgL.eff (o := _) rfl (by kernel_rfl) (by kernel_rfl) (Eff.storeN (b := b1) (off := 0) (vs := (bv (Q.shown.getD ((q).toNat) zb))) (n := 512) rfl (by kernel_rfl) (by kernel_rfl) (by kernel_rfl) ((bv_size _).trans (hg.ws.at' _)) (all_bv _) 0 (cs := (bv (List.replicate 512 0))) (e := 33) (by kernel_rfl) (by rw [zsz512]; omega)) ?_
      rintro ⟨⟩ -
      refine CfgL.setO (O' := [(b1, .cells (bv (Q.shown.getD ((q).toNat) zb)) 33 (0, 0))]) (congrArg (fun (xq : Array Value) => ([(b1, .cells xq 33 (0, 0))] : List (Nat × Obj))) (spl_all (((bv_size _).trans (hg.ws.at' _)).trans zsz512.symm))) ?_
      refine CfgL.pure 1 [] (some [4, 5]) (Γ' := [(5, [], .int .i64 0), (4, [], .pointer (some ⟨b1, 0, none⟩))]) (nd := (fun _ => [])) (by kernel_rfl) (fun _ => by kernel_rfl) trivial ?_
      refine CfgL.done rfl ?_
      refine Cfg.ret rfl (rs := [.cell 4 33, .tmp 5]) rfl [.agg (bv (Q.shown.getD ((q).toNat) zb)), .int .i64 0] ⟨⟨_, by kernel_rfl, (fun w1 h => h.oload 0 rfl Try.underlying33 rfl (n := 512) (by kernel_rfl) ((bv_size _).trans (hg.ws.at' _)))⟩, by kernel_rfl, trivial⟩ (fun w1 hp => ?_)
      have hx : rReadE Q q = 0 := by unfold rReadE; rw [if_neg (by simp [c1]), if_neg (by omega)]
      have hy : rReadB Q q = Q.shown.getD q.toNat zb := by unfold rReadB; rw [hx, if_pos rfl]
      rw [hx, hy]
      exact ⟨rfl, hp.ext⟩

set_option maxRecDepth 100000 in
theorem rStep (m : RM) (Q : RK) (w : World) (hf : -1 ≤ Q.fuse ∧ Q.fuse ≤ 9223372036854775807) (hs : 0 ≤ Q.done ∧ Q.done ≤ 4611686018427387904) (hb : w.heap[m.r]? = some (.cells (rC Q m) 51 (0, 0))) :
    Calls Try.prog 38 #[.pointer (some ⟨m.r, 0, none⟩)] w fun e w' => e = .returned (.bool (stF Q).1) ∧ Ext [m.r] w w' ∧ w'.heap[m.r]? = some (.cells (rC (stF Q).2 m) 51 (0, 0)) := by
  refine enter (vs := [.pointer (some ⟨m.r, 0, none⟩)]) [m.r] [] [(m.r, .cells #[.slice (some ⟨m.sb, 0, none⟩) Q.shown.length Q.shown.length, .slice (some ⟨m.lb, 0, none⟩) Q.last.length Q.last.length, .slice (some ⟨m.wb, 0, none⟩) Q.waits.length Q.waits.length, .int .i64 Q.done, .int .i64 Q.fuse, .bool Q.down] 51 (0, 0))] Try.func38 rfl (by kernel_rfl) (HP.startM (fun e he => by cases he) hb (by simp)) ?_
  refine Cfg.reg rfl [0] [] (Γ' := [(0, [], .pointer (some ⟨m.r, 0, none⟩))]) (nd := (fun _ => [])) (fun _ => by kernel_rfl) trivial ?_
  refine Cfg.reg rfl [0, 7] [(0, false, none), (0, false, none), (0, false, none), (0, false, some (.int .i64 Q.fuse))] (Γ' := [(7, [], .bool (Q.fuse == (0 : Int))), (0, [], .pointer (some ⟨m.r, 0, none⟩))]) (nd := (fun S => [(∀ w1, S w1 → w1.cell? ⟨m.r, 4, none⟩ = some (.int .i64 Q.fuse))])) (fun _ => by kernel_rfl) ⟨(fun w1 h => h.ocell 0 rfl rfl), trivial⟩ ?_
  refine Cfg.cond rfl (b := (Q.fuse == (0 : Int))) (by kernel_rfl) (fun c1r => ?_) (fun c1r => ?_)
  · have c1 : (Q.fuse = (0 : Int)) := (beq_iff_eq.1 c1r)
    refine Cfg.begL rfl ?_
    refine CfgL.pure 3 [] none (Γ' := [(10, [], .pointer (some ⟨m.r, 5, none⟩)), (9, [], .pointer (some ⟨m.r, 0, none⟩)), (8, [], .pointer (some ⟨m.r, 0, none⟩)), (7, [], .bool (Q.fuse == (0 : Int))), (0, [], .pointer (some ⟨m.r, 0, none⟩))]) (nd := (fun _ => [])) (by kernel_rfl) (fun _ => by kernel_rfl) trivial ?_
    refine CfgL.eff (o := _) rfl (by kernel_rfl) (by kernel_rfl) (Eff.store1 (b := m.r) (off := 5) (v := .bool true) rfl (by kernel_rfl) (by kernel_rfl) rfl (by kernel_rfl) 0 (cs := #[.slice (some ⟨m.sb, 0, none⟩) Q.shown.length Q.shown.length, .slice (some ⟨m.lb, 0, none⟩) Q.last.length Q.last.length, .slice (some ⟨m.wb, 0, none⟩) Q.waits.length Q.waits.length, .int .i64 Q.done, .int .i64 Q.fuse, .bool Q.down]) (e := 51) (by kernel_rfl) (by simp)) ?_
    rintro ⟨⟩ -
    refine CfgL.done rfl ?_
    refine Conv.cfg (Γ' := []) (Conv.mk (by kernel_rfl)) ?_
    refine Cfg.reg rfl [2] [] (Γ' := [(2, [], .bool false)]) (nd := (fun _ => [])) (fun _ => by kernel_rfl) trivial ?_
    refine Cfg.ret rfl (rs := [.tmp 2]) rfl [.bool false] ⟨by kernel_rfl, trivial⟩ (fun w1 hp => ?_)
    have hx : stF Q = (false, { Q with down := true }) := if_pos c1
    rw [hx]
    exact ⟨rfl, hp.ext, hp.own (m.r, _) (List.mem_cons_self ..)⟩
  · have c1 : (Q.fuse ≠ (0 : Int)) := (beq_eq_false_iff_ne.1 c1r)
    refine Cfg.reg rfl [0, 15] [(0, false, none), (0, false, none), (0, false, none), (0, false, some (.int .i64 Q.fuse))] (Γ' := [(15, [], .bool (decide (Q.fuse > (0 : Int)))), (0, [], .pointer (some ⟨m.r, 0, none⟩))]) (nd := (fun S => [(∀ w1, S w1 → w1.cell? ⟨m.r, 4, none⟩ = some (.int .i64 Q.fuse))])) (fun _ => by kernel_rfl) ⟨(fun w1 h => h.ocell 0 rfl rfl), trivial⟩ ?_
    refine Cfg.cond rfl (b := (decide (Q.fuse > (0 : Int)))) (by kernel_rfl) (fun c2r => ?_) (fun c2r => ?_)
    · have c2 : (Q.fuse > (0 : Int)) := (of_decide_eq_true c2r)
      refine Cfg.begL rfl ?_
      refine CfgL.pure 7 [(0, false, none), (0, false, none), (0, false, none), (0, false, some (.int .i64 Q.fuse))] none (Γ' := [(22, [], .pointer (some ⟨m.r, 4, none⟩)), (21, [], .pointer (some ⟨m.r, 0, none⟩)), (20, [], .int .i64 (Q.fuse - 1)), (19, [], .int .i64 Q.fuse), (18, [], .pointer (some ⟨m.r, 4, none⟩)), (17, [], .pointer (some ⟨m.r, 0, none⟩)), (16, [], .pointer (some ⟨m.r, 0, none⟩)), (15, [], .bool (decide (Q.fuse > (0 : Int)))), (0, [], .pointer (some ⟨m.r, 0, none⟩))]) (nd := (fun S => [(∀ w1, S w1 → w1.cell? ⟨m.r, 4, none⟩ = some (.int .i64 Q.fuse)), ((-9223372036854775808 : Int) ≤ (Q.fuse - 1) ∧ (Q.fuse - 1) ≤ 9223372036854775807)])) (by kernel_rfl) (fun _ => by kernel_rfl) ⟨(fun w1 h => h.ocell 0 rfl rfl), (by omega), trivial⟩ ?_
      refine CfgL.eff (o := _) rfl (by kernel_rfl) (by kernel_rfl) (Eff.store1 (b := m.r) (off := 4) (v := .int .i64 (Q.fuse - 1)) rfl (by kernel_rfl) (by kernel_rfl) rfl (by kernel_rfl) 0 (cs := #[.slice (some ⟨m.sb, 0, none⟩) Q.shown.length Q.shown.length, .slice (some ⟨m.lb, 0, none⟩) Q.last.length Q.last.length, .slice (some ⟨m.wb, 0, none⟩) Q.waits.length Q.waits.length, .int .i64 Q.done, .int .i64 Q.fuse, .bool Q.down]) (e := 51) (by kernel_rfl) (by simp)) ?_
      rintro ⟨⟩ -
      refine CfgL.done rfl ?_
      refine Conv.cfg (Γ' := [(0, [], .pointer (some ⟨m.r, 0, none⟩))]) (Conv.mk (by kernel_rfl)) ?_
      refine Cfg.begL rfl ?_
      refine CfgL.pure 7 [(0, false, none), (0, false, none), (0, false, none), (0, false, some (.int .i64 Q.done))] none (Γ' := [(29, [], .pointer (some ⟨m.r, 3, none⟩)), (28, [], .pointer (some ⟨m.r, 0, none⟩)), (27, [], .int .i64 (Q.done + 1)), (26, [], .int .i64 Q.done), (25, [], .pointer (some ⟨m.r, 3, none⟩)), (24, [], .pointer (some ⟨m.r, 0, none⟩)), (23, [], .pointer (some ⟨m.r, 0, none⟩)), (0, [], .pointer (some ⟨m.r, 0, none⟩))]) (nd := (fun S => [(∀ w1, S w1 → w1.cell? ⟨m.r, 3, none⟩ = some (.int .i64 Q.done)), ((-9223372036854775808 : Int) ≤ (Q.done + 1) ∧ (Q.done + 1) ≤ 9223372036854775807)])) (by kernel_rfl) (fun _ => by kernel_rfl) ⟨(fun w1 h => h.ocell 0 rfl rfl), (by omega), trivial⟩ ?_
      refine CfgL.eff (o := _) rfl (by kernel_rfl) (by kernel_rfl) (Eff.store1 (b := m.r) (off := 3) (v := .int .i64 (Q.done + 1)) rfl (by kernel_rfl) (by kernel_rfl) rfl (by kernel_rfl) 0 (cs := (#[.slice (some ⟨m.sb, 0, none⟩) Q.shown.length Q.shown.length, .slice (some ⟨m.lb, 0, none⟩) Q.last.length Q.last.length, .slice (some ⟨m.wb, 0, none⟩) Q.waits.length Q.waits.length, .int .i64 Q.done, .int .i64 Q.fuse, .bool Q.down].setIfInBounds 4 (.int .i64 (Q.fuse - 1)))) (e := 51) (by kernel_rfl) (by simp)) ?_
      rintro ⟨⟩ -
      refine CfgL.done rfl ?_
      refine Conv.cfg (Γ' := []) (Conv.mk (by kernel_rfl)) ?_
      refine Cfg.reg rfl [2] [] (Γ' := [(2, [], .bool true)]) (nd := (fun _ => [])) (fun _ => by kernel_rfl) trivial ?_
      refine Cfg.ret rfl (rs := [.tmp 2]) rfl [.bool true] ⟨by kernel_rfl, trivial⟩ (fun w1 hp => ?_)
      have hx : stF Q = (true, { Q with fuse := Q.fuse - 1, done := Q.done + 1 }) := by unfold stF; rw [if_neg c1, if_pos c2]
      rw [hx]
      exact ⟨rfl, hp.ext, hp.own (m.r, _) (List.mem_cons_self ..)⟩
    · have c2 : (¬ (Q.fuse > (0 : Int))) := (of_decide_eq_false c2r)
      refine Cfg.begL rfl ?_
      refine CfgL.pure 7 [(0, false, none), (0, false, none), (0, false, none), (0, false, some (.int .i64 Q.done))] none (Γ' := [(29, [], .pointer (some ⟨m.r, 3, none⟩)), (28, [], .pointer (some ⟨m.r, 0, none⟩)), (27, [], .int .i64 (Q.done + 1)), (26, [], .int .i64 Q.done), (25, [], .pointer (some ⟨m.r, 3, none⟩)), (24, [], .pointer (some ⟨m.r, 0, none⟩)), (23, [], .pointer (some ⟨m.r, 0, none⟩)), (15, [], .bool (decide (Q.fuse > (0 : Int)))), (0, [], .pointer (some ⟨m.r, 0, none⟩))]) (nd := (fun S => [(∀ w1, S w1 → w1.cell? ⟨m.r, 3, none⟩ = some (.int .i64 Q.done)), ((-9223372036854775808 : Int) ≤ (Q.done + 1) ∧ (Q.done + 1) ≤ 9223372036854775807)])) (by kernel_rfl) (fun _ => by kernel_rfl) ⟨(fun w1 h => h.ocell 0 rfl rfl), (by omega), trivial⟩ ?_
      refine CfgL.eff (o := _) rfl (by kernel_rfl) (by kernel_rfl) (Eff.store1 (b := m.r) (off := 3) (v := .int .i64 (Q.done + 1)) rfl (by kernel_rfl) (by kernel_rfl) rfl (by kernel_rfl) 0 (cs := #[.slice (some ⟨m.sb, 0, none⟩) Q.shown.length Q.shown.length, .slice (some ⟨m.lb, 0, none⟩) Q.last.length Q.last.length, .slice (some ⟨m.wb, 0, none⟩) Q.waits.length Q.waits.length, .int .i64 Q.done, .int .i64 Q.fuse, .bool Q.down]) (e := 51) (by kernel_rfl) (by simp)) ?_
      rintro ⟨⟩ -
      refine CfgL.done rfl ?_
      refine Conv.cfg (Γ' := []) (Conv.mk (by kernel_rfl)) ?_
      refine Cfg.reg rfl [2] [] (Γ' := [(2, [], .bool true)]) (nd := (fun _ => [])) (fun _ => by kernel_rfl) trivial ?_
      refine Cfg.ret rfl (rs := [.tmp 2]) rfl [.bool true] ⟨by kernel_rfl, trivial⟩ (fun w1 hp => ?_)
      have hx : stF Q = (true, { Q with fuse := Q.fuse, done := Q.done + 1 }) := by unfold stF; rw [if_neg c1, if_neg c2]
      rw [hx]
      exact ⟨rfl, hp.ext, hp.own (m.r, _) (List.mem_cons_self ..)⟩

set_option maxRecDepth 100000 in
theorem rList (m : RM) (Q : RK) (w : World) (hg : RG Q) (hR : Has w (rO Q m)) :
    Calls Try.prog 35 #[.pointer (some ⟨m.r, 0, none⟩)] w fun e w' => ∃ o : K.Own, OwnOk o 1 (lisF Q.waits Q.waits.length).length ((lisF Q.waits Q.waits.length).map Go.encZ) ∧ e = .returned (.slice o.a (lisF Q.waits Q.waits.length).length o.c) ∧ Has w' (o.o 3 ((lisF Q.waits Q.waits.length).map Go.encZ)) ∧ (∀ x ∈ o.o 3 ((lisF Q.waits Q.waits.length).map Go.encZ), w.heap.size ≤ x.1) ∧ Ext [] w w' := by
  have hn := hg.n
  have hsl := hg.sl
  have htl := hg.tl
  refine enter (vs := [.pointer (some ⟨m.r, 0, none⟩)]) [] [(m.r, .cells #[.slice (some ⟨m.sb, 0, none⟩) Q.shown.length Q.shown.length, .slice (some ⟨m.lb, 0, none⟩) Q.last.length Q.last.length, .slice (some ⟨m.wb, 0, none⟩) Q.waits.length Q.waits.length, .int .i64 Q.done, .int .i64 Q.fuse, .bool Q.down] 51 (0, 0)), (m.sb, .cells ((rows Q.shown).toArray) 33 (0, 0)), (m.lb, .cells ((rows Q.last).toArray) 33 (0, 0)), (m.wb, .cells ((rb Q.waits).toArray) 4 (0, 0))] [] Try.func35 rfl (by kernel_rfl) (HP.ofHas hR) ?_
  refine Cfg.reg rfl [0] [] (Γ' := [(0, [], .pointer (some ⟨m.r, 0, none⟩))]) (nd := (fun _ => [])) (fun _ => by kernel_rfl) trivial ?_
  refine Cfg.reg rfl [0, 3] [] (Γ' := [(3, [], .slice none 0 0), (0, [], .pointer (some ⟨m.r, 0, none⟩))]) (nd := (fun _ => [])) (fun _ => by kernel_rfl) trivial ?_
  refine Cfg.reg rfl [3, 9, 10, 11] [(0, false, none), (0, false, none), (0, false, none), (0, false, some (.slice (some ⟨m.wb, 0, none⟩) Q.waits.length Q.waits.length))] (Γ' := [(11, [], .int .i64 0), (10, [], .int .i64 (Q.waits.length : Int)), (9, [], .slice (some ⟨m.wb, 0, none⟩) Q.waits.length Q.waits.length), (3, [], .slice none 0 0)]) (nd := (fun S => [(∀ w1, S w1 → w1.cell? ⟨m.r, 2, none⟩ = some (.slice (some ⟨m.wb, 0, none⟩) Q.waits.length Q.waits.length))])) (fun _ => by kernel_rfl) ⟨(fun w1 h => h.rcell 0 rfl rfl), trivial⟩ ?_
  refine Cfg.loop rfl (ι := Nat × K.Own) (fun (xz : Nat × K.Own) => match xz with | (k, own) => [(11, [], .int .i64 (k : Int)), (10, [], .int .i64 (Q.waits.length : Int)), (9, [], .slice (some ⟨m.wb, 0, none⟩) Q.waits.length Q.waits.length), (3, [], .slice (Own.a own) ((lisF Q.waits k).length) (Own.c own))]) (fun (xz : Nat × K.Own) => match xz with | (k, own) => ([] ++ (Own.o 3 ((lisF Q.waits k).map Go.encZ) own ++ []))) (fun (xz : Nat × K.Own) => match xz with | (k, own) => (k ≤ Q.waits.length) ∧ (OwnOk own 1 (lisF Q.waits k).length ((lisF Q.waits k).map Go.encZ))) (fun (xz : Nat × K.Own) => match xz with | (k, own) => Q.waits.length - k) (0, none) ?_ (Conv.mk (by kernel_rfl)) (List.Sublist.refl _) ?_
  · exact ⟨Nat.zero_le _, OwnOk.none _⟩
  · rintro ⟨k, own⟩ ⟨hk, hok⟩
    refine Cfg.reg rfl [3, 9, 10, 11, 12] [] (Γ' := [(12, [], .bool (decide ((k : Int) < (Q.waits.length : Int)))), (11, [], .int .i64 (k : Int)), (10, [], .int .i64 (Q.waits.length : Int)), (9, [], .slice (some ⟨m.wb, 0, none⟩) Q.waits.length Q.waits.length), (3, [], .slice (Own.a own) ((lisF Q.waits k).length) (Own.c own))]) (nd := (fun _ => [])) (fun _ => by kernel_rfl) trivial ?_
    refine Cfg.cond rfl (b := (decide ((k : Int) < (Q.waits.length : Int)))) (by kernel_rfl) (fun c1r => ?_) (fun c1r => ?_)
    · have c1 : ((k : Int) < (Q.waits.length : Int)) := (of_decide_eq_true c1r)
      refine Cfg.reg rfl [3, 4, 5, 9, 10, 11] [(0, false, none), (0, false, none), (0, false, some (.bool (Q.waits.getD k false)))] (Γ' := [(5, [], .bool (Q.waits.getD k false)), (4, [], .int .i64 (k : Int)), (11, [], .int .i64 (k : Int)), (10, [], .int .i64 (Q.waits.length : Int)), (9, [], .slice (some ⟨m.wb, 0, none⟩) Q.waits.length Q.waits.length), (3, [], .slice (Own.a own) ((lisF Q.waits k).length) (Own.c own))]) (nd := (fun S => [(0 ≤ (k : Int) ∧ (k : Int) < (Q.waits.length : Int)), (∀ w1, S w1 → w1.cell? ⟨m.wb, k, none⟩ = some (.bool (Q.waits.getD k false)))])) (fun _ => by kernel_rfl) ⟨(by omega), (fun w1 h => rb_cell (h.ro _ (List.mem_of_getElem? (i := 3) rfl)) (by omega)), trivial⟩ ?_
      refine Cfg.reg rfl [3, 4, 9, 10, 11, 16] [] (Γ' := [(16, [], .bool (Q.waits.getD k false)), (4, [], .int .i64 (k : Int)), (11, [], .int .i64 (k : Int)), (10, [], .int .i64 (Q.waits.length : Int)), (9, [], .slice (some ⟨m.wb, 0, none⟩) Q.waits.length Q.waits.length), (3, [], .slice (Own.a own) ((lisF Q.waits k).length) (Own.c own))]) (nd := (fun _ => [])) (fun _ => by kernel_rfl) trivial ?_
      refine Cfg.cond rfl (b := (Q.waits.getD k false)) (by kernel_rfl) (fun c2r => ?_) (fun c2r => ?_)
      · have c2 : ((Q.waits.getD k false) = true) := c2r
        refine Cfg.begL rfl ?_
        refine CfgL.pure 2 [] none (Γ' := [(18, [], .int .i64 (k : Int)), (17, [], .slice (Own.a own) ((lisF Q.waits k).length) (Own.c own)), (16, [], .bool (Q.waits.getD k false)), (4, [], .int .i64 (k : Int)), (11, [], .int .i64 (k : Int)), (10, [], .int .i64 (Q.waits.length : Int)), (9, [], .slice (some ⟨m.wb, 0, none⟩) Q.waits.length Q.waits.length), (3, [], .slice (Own.a own) ((lisF Q.waits k).length) (Own.c own))]) (nd := (fun _ => [])) (by kernel_rfl) (fun _ => by kernel_rfl) trivial ?_
        refine CfgL.eff (o := _) rfl (by kernel_rfl) (by kernel_rfl) (Eff.buildSlice (e := 3) (cells := #[.int .i64 (k : Int)]) (parts := #[(0, .int .i64 (k : Int))]) rfl (by kernel_rfl) (fun _ => by kernel_rfl)) ?_
        rintro b1 ⟨hb1, nb1⟩
        refine CfgL.eff (o := _) rfl (by kernel_rfl) (by kernel_rfl) (Eff.appendF rfl 1 8 Try.underlying37 (by kernel_rfl) (z := (.int .i64 0)) (by kernel_rfl) (by kernel_rfl) own (xs := ((lisF Q.waits k).map Go.encZ)) hok (by kernel_rfl) (b2 := b1) (off2 := 0) (m := 1) (c2 := 1) (by kernel_rfl) ([Value.int .i64 (k : Int)]) rfl (fun v hv => by rw [List.mem_singleton.1 hv]; rfl) [(b1, .cells #[.int .i64 (k : Int)] 3 (0, 0))] [] (by rfl) (fun w1 h j v hj => by rw [Nat.zero_add]; exact h.ocell 0 rfl (by rw [← Array.getElem?_toList]; exact hj)) (by have := lisF_len Q.waits k; omega) (by have := lisF_len Q.waits k; omega)) ?_
        rintro o1 ko1
        refine CfgL.pure 1 [] (some [3, 9, 10, 11]) (Γ' := [(3, [], .slice (Own.a o1) (((lisF Q.waits k).length + 1)) (Own.c o1)), (11, [], .int .i64 (k : Int)), (10, [], .int .i64 (Q.waits.length : Int)), (9, [], .slice (some ⟨m.wb, 0, none⟩) Q.waits.length Q.waits.length)]) (nd := (fun _ => [])) (by kernel_rfl) (fun _ => by kernel_rfl) trivial ?_
        refine CfgL.done rfl ?_
        refine Cfg.reg rfl [3, 9, 10, 11] [] (Γ' := [(11, [], .int .i64 ((k : Int) + 1)), (3, [], .slice (Own.a o1) (((lisF Q.waits k).length + 1)) (Own.c o1)), (10, [], .int .i64 (Q.waits.length : Int)), (9, [], .slice (some ⟨m.wb, 0, none⟩) Q.waits.length Q.waits.length)]) (nd := (fun _ => [((-9223372036854775808 : Int) ≤ ((k : Int) + 1) ∧ ((k : Int) + 1) ≤ 9223372036854775807)])) (fun _ => by kernel_rfl) ⟨(by omega), trivial⟩ ?_
        have hpk := lisF_yes (ws := Q.waits) (k := k) c2
        refine Cfg.setO (O' := ([(b1, .cells #[.int .i64 (k : Int)] 3 (0, 0))] ++ (Own.o 3 ((lisF Q.waits (k + 1)).map Go.encZ) o1 ++ []))) (congrArg (fun (xq : List Value) => (([(b1, .cells #[.int .i64 (k : Int)] 3 (0, 0))] ++ (Own.o 3 xq o1 ++ [])) : List (Nat × Obj))) (by rw [hpk, List.map_append]; rfl)) ?_
        refine Cfg.setG (Γ' := [(11, [], .int .i64 ((k : Int) + 1)), (3, [], .slice (Own.a o1) ((lisF Q.waits (k + 1)).length) (Own.c o1)), (10, [], .int .i64 (Q.waits.length : Int)), (9, [], .slice (some ⟨m.wb, 0, none⟩) Q.waits.length Q.waits.length)]) (congrArg (fun (xq : Nat) => ([(11, [], .int .i64 ((k : Int) + 1)), (3, [], .slice (Own.a o1) xq (Own.c o1)), (10, [], .int .i64 (Q.waits.length : Int)), (9, [], .slice (some ⟨m.wb, 0, none⟩) Q.waits.length Q.waits.length)] : Env)) (by rw [hpk, List.length_append]; rfl)) ?_
        refine Cfg.again rfl (k + 1, o1) ⟨by omega, by rw [hpk, List.length_append, List.map_append]; exact ko1⟩ (by show Q.waits.length - (k + 1) < Q.waits.length - k; omega) (Conv.mk (by kernel_rfl)) (.cons _ (List.Sublist.refl _))
      · have c2 : ((Q.waits.getD k false) = false) := c2r
        refine Cfg.reg rfl [3, 9, 10, 11] [] (Γ' := [(11, [], .int .i64 ((k : Int) + 1)), (10, [], .int .i64 (Q.waits.length : Int)), (9, [], .slice (some ⟨m.wb, 0, none⟩) Q.waits.length Q.waits.length), (3, [], .slice (Own.a own) ((lisF Q.waits k).length) (Own.c own))]) (nd := (fun _ => [((-9223372036854775808 : Int) ≤ ((k : Int) + 1) ∧ ((k : Int) + 1) ≤ 9223372036854775807)])) (fun _ => by kernel_rfl) ⟨(by omega), trivial⟩ ?_
        have hpk := lisF_no (ws := Q.waits) (k := k) c2
        refine Cfg.setO (O' := ([] ++ (Own.o 3 ((lisF Q.waits (k + 1)).map Go.encZ) own ++ []))) (congrArg (fun (xq : List Value) => (([] ++ (Own.o 3 xq own ++ [])) : List (Nat × Obj))) (by rw [hpk])) ?_
        refine Cfg.setG (Γ' := [(11, [], .int .i64 ((k : Int) + 1)), (10, [], .int .i64 (Q.waits.length : Int)), (9, [], .slice (some ⟨m.wb, 0, none⟩) Q.waits.length Q.waits.length), (3, [], .slice (Own.a own) ((lisF Q.waits (k + 1)).length) (Own.c own))]) (congrArg (fun (xq : Nat) => ([(11, [], .int .i64 ((k : Int) + 1)), (10, [], .int .i64 (Q.waits.length : Int)), (9, [], .slice (some ⟨m.wb, 0, none⟩) Q.waits.length Q.waits.length), (3, [], .slice (Own.a own) xq (Own.c own))] : Env)) (by rw [hpk])) ?_
        refine Cfg.again rfl (k + 1, own) ⟨by omega, by rw [hpk]; exact hok⟩ (by show Q.waits.length - (k + 1) < Q.waits.length - k; omega) (Conv.mk (by kernel_rfl)) (List.Sublist.refl _)
    · have c1 : (¬ ((k : Int) < (Q.waits.length : Int))) := (of_decide_eq_false c1r)
      refine Cfg.reg rfl [2] [] (Γ' := [(2, [], .slice (Own.a own) ((lisF Q.waits k).length) (Own.c own))]) (nd := (fun _ => [])) (fun _ => by kernel_rfl) trivial ?_
      refine Cfg.ret rfl (rs := [.tmp 2]) rfl [.slice (Own.a own) ((lisF Q.waits k).length) (Own.c own)] ⟨by kernel_rfl, trivial⟩ (fun w1 hp => ?_)
      have hk2 : k = Q.waits.length := by omega
      subst hk2
      refine ⟨own, hok, rfl, fun x hx => hp.own x (List.mem_append_right _ (List.mem_append_left _ hx)), fun x hx => ?_, hp.ext⟩
      rcases hp.mine x (List.mem_append_right _ (List.mem_append_left _ hx)) with h1 | h1
      · exact h1
      · cases h1

end Go.Proofs.Ytnoipbbcpiaemaa
