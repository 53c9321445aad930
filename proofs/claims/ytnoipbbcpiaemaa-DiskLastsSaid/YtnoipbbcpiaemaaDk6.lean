/- disk: Barrier, Crash. -/
import Derived.Test.YtnoipbbcpiaemaaDk5
import Derived.Test.YtnoipbbcpiaemaaK19
namespace Go.Proofs.Ytnoipbbcpiaemaa
open K
set_option linter.unusedVariables false

set_option maxRecDepth 100000 in
theorem dCrash1 (i kb : Nat) (la : Option Addr) (cap : Nat) (kept : List Bool) (Rl : List (Nat × Obj)) (w : World) (hi : i ≤ 4096) (hI : InS Rl la kept.length (fun j => .bool (kept.getD j false))) (hl : kept.length ≤ maxLen) (hR : Has w ((kb, .cells #[.slice la kept.length cap] 23 (0, 0)) :: Rl)) :
    Calls Try.prog 28 #[.int .i64 (i : Int), .pointer (some ⟨kb, 0, none⟩)] w fun e w' => e = .returned (.bool (kept.getD i false)) ∧ Ext [] w w' := by
  unfold maxLen at hl
  refine enter (vs := [.int .i64 (i : Int), .pointer (some ⟨kb, 0, none⟩)]) [] ((kb, .cells #[.slice la kept.length cap] 23 (0, 0)) :: Rl) [] Try.func28 rfl (by kernel_rfl) (HP.ofHas hR) ?_
  refine Cfg.reg rfl [0, 1] [] (Γ' := [(0, [], .int .i64 (i : Int)), (1, [], .pointer (some ⟨kb, 0, none⟩))]) (nd := (fun _ => [])) (fun _ => by kernel_rfl) trivial ?_
  refine Cfg.begL rfl ?_
  refine CfgL.pure 5 [(0, false, none), (0, false, some (.slice la kept.length cap))] none (Γ' := [(8, [], .bool (decide ((i : Int) < (kept.length : Int)))), (7, [], .bool (decide ((i : Int) < (kept.length : Int)))), (6, [], .int .i64 (kept.length : Int)), (5, [], .slice la kept.length cap), (4, [], .int .i64 (i : Int)), (0, [], .int .i64 (i : Int)), (1, [], .pointer (some ⟨kb, 0, none⟩))]) (nd := (fun S => [(∀ w1, S w1 → w1.cell? ⟨kb, 0, none⟩ = some (.slice la kept.length cap))])) (by kernel_rfl) (fun _ => by kernel_rfl) ⟨(fun w1 h => h.rcell 0 rfl rfl), trivial⟩ ?_
  by_cases c1 : (decide ((i : Int) < (kept.length : Int))) = true
  · have c1k : (decide ((i : Int) < (kept.length : Int))) = true := c1
    have c1q : ((i : Int) < (kept.length : Int)) := (of_decide_eq_true c1k)
    refine CfgL.known 8 (b := (decide ((i : Int) < (kept.length : Int)))) (by kernel_rfl) true c1k ?_
    have hik : i < kept.length := by omega
    obtain ⟨ib, off, cs, ti, fri, rfl, hmem, hcs⟩ := hI (by omega)
    refine CfgL.pure 6 [(1, false, some (.slice (some ⟨ib, off, none⟩) kept.length cap)), (1, false, none), (1, false, none), (1, false, some (.bool (kept.getD i false)))] (some [3]) (Γ' := [(3, [], .bool (kept.getD i false))]) (nd := (fun S => [((.bool true : Value) = .bool true), (∀ w1, S w1 → w1.cell? ⟨kb, 0, none⟩ = some (.slice (some ⟨ib, off, none⟩) kept.length cap)), ((.bool true : Value) = .bool true), ((.bool true : Value) = .bool true), (0 ≤ (i : Int) ∧ (i : Int) < (kept.length : Int)), ((.bool true : Value) = .bool true), (∀ w1, S w1 → w1.cell? ⟨ib, (addO off i), none⟩ = some (.bool (kept.getD i false)))])) (by kernel_rfl) (fun _ => by kernel_rfl) ⟨rfl, (fun w1 h => h.rcell 0 rfl rfl), rfl, rfl, (by omega), rfl, (fun w1 h => by rw [addO_eq, cell_cells (h.ro _ (List.mem_cons_of_mem _ hmem))]; exact hcs i hik), trivial⟩ ?_
    refine CfgL.done rfl ?_
    refine Cfg.ret rfl (rs := [.tmp 3]) rfl [.bool (kept.getD i false)] ⟨by kernel_rfl, trivial⟩ (fun w1 hp => ?_)
    exact ⟨rfl, hp.ext⟩
  · have c1k : (decide ((i : Int) < (kept.length : Int))) = false := (by simpa using c1)
    have c1q : (¬ ((i : Int) < (kept.length : Int))) := (of_decide_eq_false c1k)
    refine CfgL.known 8 (b := (decide ((i : Int) < (kept.length : Int)))) (by kernel_rfl) false c1k ?_
    refine CfgL.pure 6 [(2, false, none), (2, false, none), (2, false, none), (2, false, none)] (some [3]) (Γ' := [(3, [], .bool false)]) (nd := (fun _ => [((.bool false : Value) ≠ .bool true), ((.bool false : Value) ≠ .bool true), ((.bool false : Value) ≠ .bool true), ((.bool false : Value) ≠ .bool true)])) (by kernel_rfl) (fun _ => by kernel_rfl) ⟨(by simp), (by simp), (by simp), (by simp), trivial⟩ ?_
    refine CfgL.done rfl ?_
    refine Cfg.ret rfl (rs := [.tmp 3]) rfl [.bool false] ⟨by kernel_rfl, trivial⟩ (fun w1 hp => ?_)
    have hx : kept.getD i false = false := by rw [List.getD_eq_getElem?_getD, List.getElem?_eq_none (by omega)]; rfl
    exact ⟨by rw [hx]; rfl, hp.ext⟩

set_option maxRecDepth 100000 in
theorem dBarrier (m : DM) (x : MX) (D : DK) (w : World) (hg : DG D) (hmo : MapOk x.1 x.2 (wv2 D.wait)) (hA : Has w (dO D m x)) (hd : ((dO D m x).map (·.1)).Nodup) (hs : 0 ≤ D.steps ∧ D.steps ≤ 4611686018427387904) :
    Calls Try.prog 9 #[.pointer (some ⟨m.d, 0, none⟩)] w fun e w' => ∃ x2 : MX, MapOk x2.1 x2.2 (wv2 (barF D).2.wait) ∧ e = .returned (.int .i64 (barF D).1) ∧ ∃ R1, HP w [m.d, m.lb, m.mb] R1 (dO (barF D).2 m x2) w' := by
  have hf := hg.f
  refine enter (vs := [.pointer (some ⟨m.d, 0, none⟩)]) [m.d, m.lb, m.mb] [] [(m.d, .cells #[.int .i64 D.fuse, .int .i64 D.steps, .bool D.down, .slice (some ⟨m.lb, 0, none⟩) D.last.length D.last.length, .map (some m.mb)] 60 (0, 0)), (m.lb, .cells ((rows D.last).toArray) 33 (0, 0)), (m.mb, .map x.1 x.2)] Try.func9 rfl (by kernel_rfl) (HP.ofL hA hd (fun e he => by cases he) (fun e he => by cases he)) ?_
  refine Cfg.reg rfl [0] [] (Γ' := [(0, [], .pointer (some ⟨m.d, 0, none⟩))]) (nd := (fun _ => [])) (fun _ => by kernel_rfl) trivial ?_
  refine Cfg.reg rfl [0, 4] [] (Γ' := [(4, [], .bool false), (0, [], .pointer (some ⟨m.d, 0, none⟩))]) (nd := (fun _ => [])) (fun _ => by kernel_rfl) trivial ?_
  refine Cfg.condF rfl (b := false) (by kernel_rfl) rfl ?_
  refine Cfg.begL rfl ?_
  refine CfgL.pure 3 [] none (Γ' := [(7, [], .pointer (some ⟨m.d, 0, none⟩)), (6, [], .pointer (some ⟨m.d, 0, none⟩)), (5, [], .pointer (some ⟨m.d, 0, none⟩)), (4, [], .bool false), (0, [], .pointer (some ⟨m.d, 0, none⟩))]) (nd := (fun _ => [])) (by kernel_rfl) (fun _ => by kernel_rfl) trivial ?_
  refine CfgL.eff (o := _) rfl (by kernel_rfl) (by kernel_rfl) (Eff.callM (vs := [.pointer (some ⟨m.d, 0, none⟩)]) (.bool (spF D).1) 0 (.cells (dC (spF D).2 m) 60 (0, 0)) rfl Try.func23 rfl rfl (by kernel_rfl) rfl (fun w1 h => dSpend m D w1 hf hs (h.own (m.d, _) (List.mem_of_getElem? (i := 0) rfl)))) ?_
  rintro ⟨⟩ -
  refine CfgL.setO (O' := dO (spF D).2 m x) (by show _ = [(m.d, Obj.cells (dC (spF D).2 m) 60 (0, 0)), (m.lb, Obj.cells (rows (spF D).2.last).toArray 33 (0, 0)), (m.mb, Obj.map x.1 x.2)]; rw [spF_last D]; rfl) ?_
  have hm2 : MapOk x.1 x.2 (wv2 (spF D).2.wait) := by rw [spF_wait]; exact hmo
  refine CfgL.pure 1 [] (some [0, 9]) (Γ' := [(9, [], .bool (!(spF D).1)), (0, [], .pointer (some ⟨m.d, 0, none⟩))]) (nd := (fun _ => [])) (by kernel_rfl) (fun _ => by kernel_rfl) trivial ?_
  refine CfgL.done rfl ?_
  refine Cfg.cond rfl (b := (!(spF D).1)) (by kernel_rfl) (fun c2r => ?_) (fun c2r => ?_)
  · have c2 : ((spF D).1 = false) := (notT c2r)
    refine Cfg.reg rfl [2] [] (Γ' := [(2, [], .int .i64 13)]) (nd := (fun _ => [])) (fun _ => by kernel_rfl) trivial ?_
    refine Cfg.ret rfl (rs := [.tmp 2]) rfl [.int .i64 13] ⟨by kernel_rfl, trivial⟩ (fun w1 hp => ?_)
    have hx : barF D = (13, (spF D).2) := by unfold barF; rw [if_neg (by simp [c2])]
    rw [hx]
    exact ⟨x, hm2, rfl, _, hp⟩
  · have c2 : ((spF D).1 = true) := (notF c2r)
    refine Cfg.begL rfl ?_
    refine CfgL.pure 3 [] none (Γ' := [(12, [], .pointer (some ⟨m.d, 3, none⟩)), (11, [], .pointer (some ⟨m.d, 0, none⟩)), (10, [], .pointer (some ⟨m.d, 0, none⟩)), (9, [], .bool (!(spF D).1)), (0, [], .pointer (some ⟨m.d, 0, none⟩))]) (nd := (fun _ => [])) (by kernel_rfl) (fun _ => by kernel_rfl) trivial ?_
    refine CfgL.eff (o := _) rfl (by kernel_rfl) (by kernel_rfl) (Eff.callH (vs := [.pointer (some ⟨m.d, 3, none⟩), .func (.func 25) #[] #[]]) (fun _ : MX => .tuple #[]) (dO (spF D).2 m x) (fun xq => dO (settleF (fun _ => true) (spF D).2) m xq) (fun xq => MapOk xq.1 xq.2 []) [] [] (List.append_nil _).symm rfl Try.func24 rfl rfl (by kernel_rfl) (fun w1 h hA1 hd1 => dSettle m x (spF D).2 25 _ _ [] (fun _ => true) [] w1 hg.sp hm2 hA1 hd1 Try.func25 rfl rfl (fun i w2 _ _ => dBar1 i w2) (fun e he => by cases he) (fun e he => by cases he))) ?_
    rintro xq hxq
    refine CfgL.done rfl ?_
    refine Conv.cfg (Γ' := []) (Conv.mk (by kernel_rfl)) ?_
    refine Cfg.reg rfl [2] [] (Γ' := [(2, [], .int .i64 0)]) (nd := (fun _ => [])) (fun _ => by kernel_rfl) trivial ?_
    refine Cfg.ret rfl (rs := [.tmp 2]) rfl [.int .i64 0] ⟨by kernel_rfl, trivial⟩ (fun w1 hp => ?_)
    have hx : barF D = (0, settleF (fun _ => true) (spF D).2) := by unfold barF; rw [if_pos (by simpa using c2)]
    rw [hx]
    have h8 : HP w [m.d, m.lb, m.mb] [] (dO (settleF (fun _ => true) (spF D).2) m xq ++ []) w1 := hp
    rw [List.append_nil] at h8
    exact ⟨xq, hxq, rfl, [], h8⟩

set_option maxRecDepth 100000 in
theorem dCrash (m : DM) (x : MX) (D : DK) (la : Option Addr) (cap : Nat) (kept : List Bool) (Rl : List (Nat × Obj)) (w : World) (hg : DG D) (hmo : MapOk x.1 x.2 (wv2 D.wait)) (hA : Has w (dO D m x)) (hd : ((dO D m x).map (·.1)).Nodup) (hI : InS Rl la kept.length (fun j => .bool (kept.getD j false))) (hl : kept.length ≤ maxLen) (hRl : Has w Rl) (hnr : ∀ e ∈ Rl, e.1 ∉ (dO D m x).map (·.1)) :
    Calls Try.prog 12 #[.pointer (some ⟨m.d, 0, none⟩), .slice la kept.length cap] w fun e w' => ∃ x2 : MX, MapOk x2.1 x2.2 (wv2 (crashF kept D).wait) ∧ e = .returned (.tuple #[]) ∧ ∃ R1, HP w [m.d, m.lb, m.mb] R1 (dO (crashF kept D) m x2) w' := by
  refine enter (vs := [.pointer (some ⟨m.d, 0, none⟩), .slice la kept.length cap]) [m.d, m.lb, m.mb] Rl [(m.d, .cells #[.int .i64 D.fuse, .int .i64 D.steps, .bool D.down, .slice (some ⟨m.lb, 0, none⟩) D.last.length D.last.length, .map (some m.mb)] 60 (0, 0)), (m.lb, .cells ((rows D.last).toArray) 33 (0, 0)), (m.mb, .map x.1 x.2)] Try.func12 rfl (by kernel_rfl) (HP.ofL hA hd hRl hnr) ?_
  refine Cfg.begL rfl ?_
  refine CfgL.eff (o := _) rfl (by kernel_rfl) (by kernel_rfl) (Eff.box (v := .slice la kept.length cap) rfl (by kernel_rfl)) ?_
  rintro kb ⟨hkb, nkb⟩
  refine CfgL.done rfl ?_
  refine Conv.cfg (Γ' := [(3, [], .pointer (some ⟨kb, 0, none⟩)), (0, [], .pointer (some ⟨m.d, 0, none⟩))]) (Conv.mk (by kernel_rfl)) ?_
  refine Cfg.reg rfl [0, 3, 5] [] (Γ' := [(5, [], .bool false), (3, [], .pointer (some ⟨kb, 0, none⟩)), (0, [], .pointer (some ⟨m.d, 0, none⟩))]) (nd := (fun _ => [])) (fun _ => by kernel_rfl) trivial ?_
  refine Cfg.condF rfl (b := false) (by kernel_rfl) rfl ?_
  refine Cfg.begL rfl ?_
  refine CfgL.pure 4 [] none (Γ' := [(9, [], .func (.func 28) #[] #[.pointer (some ⟨kb, 0, none⟩)]), (8, [], .pointer (some ⟨m.d, 3, none⟩)), (7, [], .pointer (some ⟨m.d, 0, none⟩)), (6, [], .pointer (some ⟨m.d, 0, none⟩)), (5, [], .bool false), (3, [], .pointer (some ⟨kb, 0, none⟩)), (0, [], .pointer (some ⟨m.d, 0, none⟩))]) (nd := (fun _ => [])) (by kernel_rfl) (fun _ => by kernel_rfl) trivial ?_
  refine CfgL.eff (o := _) rfl (by kernel_rfl) (by kernel_rfl) (Eff.callH (vs := [.pointer (some ⟨m.d, 3, none⟩), .func (.func 28) #[] #[.pointer (some ⟨kb, 0, none⟩)]]) (fun _ : MX => .tuple #[]) (dO D m x) (fun xq => dO (settleF (fun i => kept.getD i false) D) m xq) (fun xq => MapOk xq.1 xq.2 []) [(kb, Obj.cells #[.slice la kept.length cap] 23 (0, 0))] [] rfl rfl Try.func24 rfl rfl (by kernel_rfl) (fun w1 h hA1 hd1 => (dSettle m x D 28 _ _ [.pointer (some ⟨kb, 0, none⟩)] (fun i => kept.getD i false) ((kb, Obj.cells #[.slice la kept.length cap] 23 (0, 0)) :: Rl) w1 hg hmo hA1 hd1 Try.func28 rfl rfl (fun i w2 hi hh => dCrash1 i kb la cap kept Rl w2 hi hI hl hh) (fun e he => by rcases List.mem_cons.1 he with rfl | he; exact h.own (kb, _) (List.mem_cons_self ..); exact h.ro e he) (fun e he => by rcases List.mem_cons.1 he with rfl | he; exact (List.nodup_cons.1 h.dist).1; intro hm; obtain ⟨e2, h2, h3⟩ := List.mem_map.1 hm; exact h.away (List.mem_cons_of_mem _ h2) he h3)))) ?_
  rintro xq hxq
  refine CfgL.done rfl ?_
  refine Conv.cfg (Γ' := [(0, [], .pointer (some ⟨m.d, 0, none⟩))]) (Conv.mk (by kernel_rfl)) ?_
  refine Cfg.begL rfl ?_
  refine CfgL.pure 4 [] none (Γ' := [(14, [], .pointer (some ⟨m.d, 0, none⟩)), (13, [], .pointer (some ⟨m.d, 0, none⟩)), (12, [], .pointer (some ⟨m.d, 0, none⟩)), (11, [], .pointer (some ⟨m.d, 0, none⟩)), (0, [], .pointer (some ⟨m.d, 0, none⟩))]) (nd := (fun _ => [])) (by kernel_rfl) (fun _ => by kernel_rfl) trivial ?_
  refine CfgL.eff (o := _) rfl (by kernel_rfl) (by kernel_rfl) (Eff.store1 (b := m.d) (off := 0) (v := .int .i64 (-1)) rfl (by kernel_rfl) (by kernel_rfl) rfl (by kernel_rfl) 1 (cs := #[.int .i64 ((settleF (fun i => kept.getD i false) D).fuse), .int .i64 ((settleF (fun i => kept.getD i false) D).steps), .bool (settleF (fun i => kept.getD i false) D).down, .slice (some ⟨m.lb, 0, none⟩) (settleF (fun i => kept.getD i false) D).last.length (settleF (fun i => kept.getD i false) D).last.length, .map (some m.mb)]) (e := 60) (by kernel_rfl) (by simp)) ?_
  rintro ⟨⟩ -
  refine CfgL.done rfl ?_
  refine Conv.cfg (Γ' := [(0, [], .pointer (some ⟨m.d, 0, none⟩))]) (Conv.mk (by kernel_rfl)) ?_
  refine Cfg.begL rfl ?_
  refine CfgL.pure 4 [] none (Γ' := [(18, [], .pointer (some ⟨m.d, 2, none⟩)), (17, [], .pointer (some ⟨m.d, 0, none⟩)), (16, [], .pointer (some ⟨m.d, 0, none⟩)), (15, [], .pointer (some ⟨m.d, 0, none⟩)), (0, [], .pointer (some ⟨m.d, 0, none⟩))]) (nd := (fun _ => [])) (by kernel_rfl) (fun _ => by kernel_rfl) trivial ?_
  refine CfgL.eff (o := _) rfl (by kernel_rfl) (by kernel_rfl) (Eff.store1 (b := m.d) (off := 2) (v := .bool false) rfl (by kernel_rfl) (by kernel_rfl) rfl (by kernel_rfl) 1 (cs := (#[.int .i64 ((settleF (fun i => kept.getD i false) D).fuse), .int .i64 ((settleF (fun i => kept.getD i false) D).steps), .bool (settleF (fun i => kept.getD i false) D).down, .slice (some ⟨m.lb, 0, none⟩) (settleF (fun i => kept.getD i false) D).last.length (settleF (fun i => kept.getD i false) D).last.length, .map (some m.mb)].setIfInBounds 0 (.int .i64 (-1)))) (e := 60) (by kernel_rfl) (by simp)) ?_
  rintro ⟨⟩ -
  refine CfgL.done rfl ?_
  refine Conv.cfg (Γ' := []) (Conv.mk (by kernel_rfl)) ?_
  refine Cfg.fin rfl (rs := []) rfl [] trivial (fun w1 hp => ?_)
  refine ⟨xq, hxq, rfl, Rl, ?_⟩
  have h9 := hp.sub (List.sublist_cons_self _ _)
  exact h9

end Go.Proofs.Ytnoipbbcpiaemaa
