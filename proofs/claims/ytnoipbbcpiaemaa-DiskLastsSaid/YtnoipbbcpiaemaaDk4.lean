/- disk: what writes to it, what is read of it. -/
import Derived.Test.YtnoipbbcpiaemaaDk2
import Derived.Test.YtnoipbbcpiaemaaK14
namespace Go.Proofs.Ytnoipbbcpiaemaa
open K
set_option linter.unusedVariables false

/-- A step, where there is power for it. -/
def spF (D : DK) : Bool × DK :=
  if D.down = true then (false, D) else if D.fuse = 0 then (false, { D with down := true })
  else (true, { D with fuse := if D.fuse > 0 then D.fuse - 1 else D.fuse, steps := D.steps + 1 })
theorem spF_wait (D : DK) : (spF D).2.wait = D.wait := by unfold spF; split; rfl; split <;> rfl
theorem spF_last (D : DK) : (spF D).2.last = D.last := by unfold spF; split; rfl; split <;> rfl
theorem DG.sp {D : DK} (h : DG D) : DG (spF D).2 := by
  have h1 := h.f
  unfold spF
  split
  · exact h
  · split
    · exact ⟨h.w, h.ww, h.k, h.n, h.nd, h.f⟩
    · refine ⟨h.w, h.ww, h.k, h.n, h.nd, ?_⟩
      show -1 ≤ (if D.fuse > 0 then D.fuse - 1 else D.fuse) ∧ (if D.fuse > 0 then D.fuse - 1 else D.fuse) ≤ _
      split <;> omega
theorem spF_steps (D : DK) : D.steps ≤ (spF D).2.steps ∧ (spF D).2.steps ≤ D.steps + 1 := by
  unfold spF; split
  · exact ⟨by simp only; omega, by simp only; omega⟩
  · split
    · exact ⟨by simp only; omega, by simp only; omega⟩
    · exact ⟨by simp only; omega, by simp only; omega⟩
def writeF (D : DK) (q : Int) (b : List UInt8) : Int × DK :=
  if fltF D q ≠ 0 then (fltF D q, D) else if (spF D).1 = true then (0, { (spF D).2 with wait := wset (spF D).2.wait q b }) else (13, (spF D).2)
theorem writeF_last (D : DK) (q : Int) (b : List UInt8) : (writeF D q b).2.last = D.last := by
  unfold writeF; split
  · rfl
  · split
    · exact spF_last D
    · exact spF_last D
theorem writeF_steps (D : DK) (q : Int) (b : List UInt8) : D.steps ≤ (writeF D q b).2.steps ∧ (writeF D q b).2.steps ≤ D.steps + 1 := by
  have := spF_steps D
  unfold writeF; split
  · exact ⟨by simp only; omega, by simp only; omega⟩
  · split
    · exact this
    · exact this
theorem wset_keys (k : Int) (v : List UInt8) : ∀ W : Wt, (wset W k v).map (·.1) = if k ∈ W.map (·.1) then W.map (·.1) else W.map (·.1) ++ [k]
  | [] => rfl
  | p :: W => by
    unfold wset
    by_cases h : k = p.1
    · rw [if_pos h, if_pos (by rw [h]; exact List.mem_cons_self ..)]
      simp [h]
    · rw [if_neg h, List.map_cons, wset_keys k v W]
      by_cases h2 : k ∈ W.map (·.1)
      · rw [if_pos h2, if_pos (by rw [List.map_cons]; exact List.mem_cons_of_mem _ h2)]; rfl
      · rw [if_neg h2, if_neg (by rw [List.map_cons, List.mem_cons]; exact fun e => e.elim h h2)]; rfl
theorem DG.wr {D : DK} (h : DG D) {q : Int} {b : List UInt8} (hq : 0 ≤ q ∧ q < (D.last.length : Int)) (hb : b.length = 512) : DG { D with wait := wset D.wait q b } :=
  ⟨h.w, fun p hp => by
    rcases wset_mem p hp with rfl | hp
    · exact hb
    · exact h.ww p hp, fun p hp => by
    rcases wset_mem p hp with rfl | hp
    · exact hq
    · exact h.k p hp, h.n, by
    show ((wset D.wait q b).map (·.1)).Nodup
    rw [wset_keys]
    split
    · exact h.nd
    · rename_i h1
      refine List.nodup_append.2 ⟨h.nd, by simp, fun x hx y hy => ?_⟩
      rw [List.mem_singleton.1 hy]; exact fun e => h1 (e ▸ hx), h.f⟩
theorem DG.write {D : DK} (h : DG D) (q : Int) {b : List UInt8} (hb : b.length = 512) : DG (writeF D q b).2 := by
  unfold writeF
  split
  · exact h
  · rename_i h0
    have h0 : fltF D q = 0 := Decidable.not_not.1 h0
    split
    · exact h.sp.wr (by rw [spF_last]; exact fltF_in h0) hb
    · exact h.sp
theorem fltF_cases (D : DK) (q : Int) : fltF D q = 0 ∨ fltF D q = 2 ∨ fltF D q = 13 := by
  unfold fltF; split
  · exact .inr (.inr rfl)
  · split
    · exact .inl rfl
    · exact .inr (.inl rfl)

set_option maxRecDepth 100000 in
theorem dSpend (m : DM) (D : DK) (w : World) (hf : -1 ≤ D.fuse ∧ D.fuse ≤ 9223372036854775807) (hs : 0 ≤ D.steps ∧ D.steps ≤ 4611686018427387904) (hb : w.heap[m.d]? = some (.cells (dC D m) 60 (0, 0))) :
    Calls Try.prog 23 #[.pointer (some ⟨m.d, 0, none⟩)] w fun e w' => e = .returned (.bool (spF D).1) ∧ Ext [m.d] w w' ∧ w'.heap[m.d]? = some (.cells (dC (spF D).2 m) 60 (0, 0)) := by
  refine enter (vs := [.pointer (some ⟨m.d, 0, none⟩)]) [m.d] [] [(m.d, .cells #[.int .i64 D.fuse, .int .i64 D.steps, .bool D.down, .slice (some ⟨m.lb, 0, none⟩) D.last.length D.last.length, .map (some m.mb)] 60 (0, 0))] Try.func23 rfl (by kernel_rfl) (HP.startM (fun e he => by cases he) hb (by simp)) ?_
  refine Cfg.reg rfl [0] [] (Γ' := [(0, [], .pointer (some ⟨m.d, 0, none⟩))]) (nd := (fun _ => [])) (fun _ => by kernel_rfl) trivial ?_
  refine Cfg.reg rfl [0, 6] [(0, false, none), (0, false, none), (0, false, none), (0, false, some (.bool D.down))] (Γ' := [(6, [], .bool D.down), (0, [], .pointer (some ⟨m.d, 0, none⟩))]) (nd := (fun S => [(∀ w1, S w1 → w1.cell? ⟨m.d, 2, none⟩ = some (.bool D.down))])) (fun _ => by kernel_rfl) ⟨(fun w1 h => h.ocell 0 rfl rfl), trivial⟩ ?_
  refine Cfg.cond rfl (b := D.down) (by kernel_rfl) (fun c1r => ?_) (fun c1r => ?_)
  · have c1 : (D.down = true) := c1r
    refine Cfg.reg rfl [2] [] (Γ' := [(2, [], .bool false)]) (nd := (fun _ => [])) (fun _ => by kernel_rfl) trivial ?_
    refine Cfg.ret rfl (rs := [.tmp 2]) rfl [.bool false] ⟨by kernel_rfl, trivial⟩ (fun w1 hp => ?_)
    have hx : spF D = (false, D) := if_pos c1
    rw [hx]
    exact ⟨rfl, hp.ext, hp.own (m.d, _) (List.mem_cons_self ..)⟩
  · have c1 : (D.down = false) := c1r
    refine Cfg.reg rfl [0, 11] [(0, false, none), (0, false, none), (0, false, none), (0, false, some (.int .i64 D.fuse))] (Γ' := [(11, [], .bool (D.fuse == (0 : Int))), (0, [], .pointer (some ⟨m.d, 0, none⟩))]) (nd := (fun S => [(∀ w1, S w1 → w1.cell? ⟨m.d, 0, none⟩ = some (.int .i64 D.fuse))])) (fun _ => by kernel_rfl) ⟨(fun w1 h => h.ocell 0 rfl rfl), trivial⟩ ?_
    refine Cfg.cond rfl (b := (D.fuse == (0 : Int))) (by kernel_rfl) (fun c2r => ?_) (fun c2r => ?_)
    · have c2 : (D.fuse = (0 : Int)) := (beq_iff_eq.1 c2r)
      refine Cfg.begL rfl ?_
      refine CfgL.pure 3 [] none (Γ' := [(14, [], .pointer (some ⟨m.d, 2, none⟩)), (13, [], .pointer (some ⟨m.d, 0, none⟩)), (12, [], .pointer (some ⟨m.d, 0, none⟩)), (11, [], .bool (D.fuse == (0 : Int))), (0, [], .pointer (some ⟨m.d, 0, none⟩))]) (nd := (fun _ => [])) (by kernel_rfl) (fun _ => by kernel_rfl) trivial ?_
      refine CfgL.eff (o := _) rfl (by kernel_rfl) (by kernel_rfl) (Eff.store1 (b := m.d) (off := 2) (v := .bool true) rfl (by kernel_rfl) (by kernel_rfl) rfl (by kernel_rfl) 0 (cs := #[.int .i64 D.fuse, .int .i64 D.steps, .bool D.down, .slice (some ⟨m.lb, 0, none⟩) D.last.length D.last.length, .map (some m.mb)]) (e := 60) (by kernel_rfl) (by simp)) ?_
      rintro ⟨⟩ -
      refine CfgL.done rfl ?_
      refine Conv.cfg (Γ' := []) (Conv.mk (by kernel_rfl)) ?_
      refine Cfg.reg rfl [2] [] (Γ' := [(2, [], .bool false)]) (nd := (fun _ => [])) (fun _ => by kernel_rfl) trivial ?_
      refine Cfg.ret rfl (rs := [.tmp 2]) rfl [.bool false] ⟨by kernel_rfl, trivial⟩ (fun w1 hp => ?_)
      have hx : spF D = (false, { D with down := true }) := by unfold spF; rw [if_neg (by simp [c1]), if_pos c2]
      rw [hx]
      exact ⟨rfl, hp.ext, hp.own (m.d, _) (List.mem_cons_self ..)⟩
    · have c2 : (D.fuse ≠ (0 : Int)) := (beq_eq_false_iff_ne.1 c2r)
      refine Cfg.reg rfl [0, 19] [(0, false, none), (0, false, none), (0, false, none), (0, false, some (.int .i64 D.fuse))] (Γ' := [(19, [], .bool (decide (D.fuse > (0 : Int)))), (0, [], .pointer (some ⟨m.d, 0, none⟩))]) (nd := (fun S => [(∀ w1, S w1 → w1.cell? ⟨m.d, 0, none⟩ = some (.int .i64 D.fuse))])) (fun _ => by kernel_rfl) ⟨(fun w1 h => h.ocell 0 rfl rfl), trivial⟩ ?_
      refine Cfg.cond rfl (b := (decide (D.fuse > (0 : Int)))) (by kernel_rfl) (fun c3r => ?_) (fun c3r => ?_)
      · have c3 : (D.fuse > (0 : Int)) := (of_decide_eq_true c3r)
        refine Cfg.begL rfl ?_
        refine CfgL.pure 7 [(0, false, none), (0, false, none), (0, false, none), (0, false, some (.int .i64 D.fuse))] none (Γ' := [(26, [], .pointer (some ⟨m.d, 0, none⟩)), (25, [], .pointer (some ⟨m.d, 0, none⟩)), (24, [], .int .i64 (D.fuse - 1)), (23, [], .int .i64 D.fuse), (22, [], .pointer (some ⟨m.d, 0, none⟩)), (21, [], .pointer (some ⟨m.d, 0, none⟩)), (20, [], .pointer (some ⟨m.d, 0, none⟩)), (19, [], .bool (decide (D.fuse > (0 : Int)))), (0, [], .pointer (some ⟨m.d, 0, none⟩))]) (nd := (fun S => [(∀ w1, S w1 → w1.cell? ⟨m.d, 0, none⟩ = some (.int .i64 D.fuse)), ((-9223372036854775808 : Int) ≤ (D.fuse - 1) ∧ (D.fuse - 1) ≤ 9223372036854775807)])) (by kernel_rfl) (fun _ => by kernel_rfl) ⟨(fun w1 h => h.ocell 0 rfl rfl), (by omega), trivial⟩ ?_
        refine CfgL.eff (o := _) rfl (by kernel_rfl) (by kernel_rfl) (Eff.store1 (b := m.d) (off := 0) (v := .int .i64 (D.fuse - 1)) rfl (by kernel_rfl) (by kernel_rfl) rfl (by kernel_rfl) 0 (cs := #[.int .i64 D.fuse, .int .i64 D.steps, .bool D.down, .slice (some ⟨m.lb, 0, none⟩) D.last.length D.last.length, .map (some m.mb)]) (e := 60) (by kernel_rfl) (by simp)) ?_
        rintro ⟨⟩ -
        refine CfgL.done rfl ?_
        refine Conv.cfg (Γ' := [(0, [], .pointer (some ⟨m.d, 0, none⟩))]) (Conv.mk (by kernel_rfl)) ?_
        refine Cfg.begL rfl ?_
        refine CfgL.pure 7 [(0, false, none), (0, false, none), (0, false, none), (0, false, some (.int .i64 D.steps))] none (Γ' := [(33, [], .pointer (some ⟨m.d, 1, none⟩)), (32, [], .pointer (some ⟨m.d, 0, none⟩)), (31, [], .int .i64 (D.steps + 1)), (30, [], .int .i64 D.steps), (29, [], .pointer (some ⟨m.d, 1, none⟩)), (28, [], .pointer (some ⟨m.d, 0, none⟩)), (27, [], .pointer (some ⟨m.d, 0, none⟩)), (0, [], .pointer (some ⟨m.d, 0, none⟩))]) (nd := (fun S => [(∀ w1, S w1 → w1.cell? ⟨m.d, 1, none⟩ = some (.int .i64 D.steps)), ((-9223372036854775808 : Int) ≤ (D.steps + 1) ∧ (D.steps + 1) ≤ 9223372036854775807)])) (by kernel_rfl) (fun _ => by kernel_rfl) ⟨(fun w1 h => h.ocell 0 rfl rfl), (by omega), trivial⟩ ?_
        refine CfgL.eff (o := _) rfl (by kernel_rfl) (by kernel_rfl) (Eff.store1 (b := m.d) (off := 1) (v := .int .i64 (D.steps + 1)) rfl (by kernel_rfl) (by kernel_rfl) rfl (by kernel_rfl) 0 (cs := (#[.int .i64 D.fuse, .int .i64 D.steps, .bool D.down, .slice (some ⟨m.lb, 0, none⟩) D.last.length D.last.length, .map (some m.mb)].setIfInBounds 0 (.int .i64 (D.fuse - 1)))) (e := 60) (by kernel_rfl) (by simp)) ?_
        rintro ⟨⟩ -
        refine CfgL.done rfl ?_
        refine Conv.cfg (Γ' := []) (Conv.mk (by kernel_rfl)) ?_
        refine Cfg.reg rfl [2] [] (Γ' := [(2, [], .bool true)]) (nd := (fun _ => [])) (fun _ => by kernel_rfl) trivial ?_
        refine Cfg.ret rfl (rs := [.tmp 2]) rfl [.bool true] ⟨by kernel_rfl, trivial⟩ (fun w1 hp => ?_)
        have hx : spF D = (true, { D with fuse := D.fuse - 1, steps := D.steps + 1 }) := by unfold spF; rw [if_neg (by simp [c1]), if_neg c2, if_pos c3]
        rw [hx]
        exact ⟨rfl, hp.ext, hp.own (m.d, _) (List.mem_cons_self ..)⟩
      · have c3 : (¬ (D.fuse > (0 : Int))) := (of_decide_eq_false c3r)
        refine Cfg.begL rfl ?_
        refine CfgL.pure 7 [(0, false, none), (0, false, none), (0, false, none), (0, false, some (.int .i64 D.steps))] none (Γ' := [(33, [], .pointer (some ⟨m.d, 1, none⟩)), (32, [], .pointer (some ⟨m.d, 0, none⟩)), (31, [], .int .i64 (D.steps + 1)), (30, [], .int .i64 D.steps), (29, [], .pointer (some ⟨m.d, 1, none⟩)), (28, [], .pointer (some ⟨m.d, 0, none⟩)), (27, [], .pointer (some ⟨m.d, 0, none⟩)), (19, [], .bool (decide (D.fuse > (0 : Int)))), (0, [], .pointer (some ⟨m.d, 0, none⟩))]) (nd := (fun S => [(∀ w1, S w1 → w1.cell? ⟨m.d, 1, none⟩ = some (.int .i64 D.steps)), ((-9223372036854775808 : Int) ≤ (D.steps + 1) ∧ (D.steps + 1) ≤ 9223372036854775807)])) (by kernel_rfl) (fun _ => by kernel_rfl) ⟨(fun w1 h => h.ocell 0 rfl rfl), (by omega), trivial⟩ ?_
        refine CfgL.eff (o := _) rfl (by kernel_rfl) (by kernel_rfl) (Eff.store1 (b := m.d) (off := 1) (v := .int .i64 (D.steps + 1)) rfl (by kernel_rfl) (by kernel_rfl) rfl (by kernel_rfl) 0 (cs := #[.int .i64 D.fuse, .int .i64 D.steps, .bool D.down, .slice (some ⟨m.lb, 0, none⟩) D.last.length D.last.length, .map (some m.mb)]) (e := 60) (by kernel_rfl) (by simp)) ?_
        rintro ⟨⟩ -
        refine CfgL.done rfl ?_
        refine Conv.cfg (Γ' := []) (Conv.mk (by kernel_rfl)) ?_
        refine Cfg.reg rfl [2] [] (Γ' := [(2, [], .bool true)]) (nd := (fun _ => [])) (fun _ => by kernel_rfl) trivial ?_
        refine Cfg.ret rfl (rs := [.tmp 2]) rfl [.bool true] ⟨by kernel_rfl, trivial⟩ (fun w1 hp => ?_)
        have hx : spF D = (true, { D with fuse := D.fuse, steps := D.steps + 1 }) := by unfold spF; rw [if_neg (by simp [c1]), if_neg c2, if_neg c3]
        rw [hx]
        exact ⟨rfl, hp.ext, hp.own (m.d, _) (List.mem_cons_self ..)⟩

set_option maxRecDepth 100000 in
theorem dFuse (m : DM) (D : DK) (q : Int) (w : World) (hb : w.heap[m.d]? = some (.cells (dC D m) 60 (0, 0))) :
    Calls Try.prog 14 #[.pointer (some ⟨m.d, 0, none⟩), .int .i64 q] w fun e w' => e = .returned (.tuple #[]) ∧ Ext [m.d] w w' ∧ w'.heap[m.d]? = some (.cells (dC { D with fuse := if -1 > q then -1 else q } m) 60 (0, 0)) := by
  refine enter (vs := [.pointer (some ⟨m.d, 0, none⟩), .int .i64 q]) [m.d] [] [(m.d, .cells #[.int .i64 D.fuse, .int .i64 D.steps, .bool D.down, .slice (some ⟨m.lb, 0, none⟩) D.last.length D.last.length, .map (some m.mb)] 60 (0, 0))] Try.func14 rfl (by kernel_rfl) (HP.startM (fun e he => by cases he) hb (by simp)) ?_
  refine Cfg.reg rfl [0, 1, 5] [] (Γ' := [(5, [], .bool true), (0, [], .pointer (some ⟨m.d, 0, none⟩)), (1, [], .int .i64 q)]) (nd := (fun _ => [])) (fun _ => by kernel_rfl) trivial ?_
  refine Cfg.condT rfl (b := true) (by kernel_rfl) rfl ?_
  refine Cfg.begL rfl ?_
  refine CfgL.pure 2 [] none (Γ' := [(7, [], .int .i64 q), (6, [], .pointer (some ⟨m.d, 0, none⟩)), (5, [], .bool true), (0, [], .pointer (some ⟨m.d, 0, none⟩)), (1, [], .int .i64 q)]) (nd := (fun _ => [])) (by kernel_rfl) (fun _ => by kernel_rfl) trivial ?_
  refine CfgL.eff (o := _) rfl (by kernel_rfl) (by kernel_rfl) (Eff.maxI (k := .i64) (a := q) (b := -1) rfl (by kernel_rfl) (by kernel_rfl)) ?_
  rintro ⟨⟩ -
  refine CfgL.pure 3 [] none (Γ' := [(11, [], .pointer (some ⟨m.d, 0, none⟩)), (10, [], .pointer (some ⟨m.d, 0, none⟩)), (9, [], .pointer (some ⟨m.d, 0, none⟩)), (8, [], .int .i64 (if -1 > q then -1 else q)), (7, [], .int .i64 q), (6, [], .pointer (some ⟨m.d, 0, none⟩)), (5, [], .bool true), (0, [], .pointer (some ⟨m.d, 0, none⟩)), (1, [], .int .i64 q)]) (nd := (fun _ => [])) (by kernel_rfl) (fun _ => by kernel_rfl) trivial ?_
  refine CfgL.eff (o := _) rfl (by kernel_rfl) (by kernel_rfl) (Eff.store1 (b := m.d) (off := 0) (v := .int .i64 (if -1 > q then -1 else q)) rfl (by kernel_rfl) (by kernel_rfl) rfl (by kernel_rfl) 0 (cs := #[.int .i64 D.fuse, .int .i64 D.steps, .bool D.down, .slice (some ⟨m.lb, 0, none⟩) D.last.length D.last.length, .map (some m.mb)]) (e := 60) (by kernel_rfl) (by simp)) ?_
  rintro ⟨⟩ -
  refine CfgL.done rfl ?_
  refine Conv.cfg (Γ' := []) (Conv.mk (by kernel_rfl)) ?_
  refine Cfg.fin rfl (rs := []) rfl [] trivial (fun w1 hp => ?_)
  exact ⟨rfl, hp.ext, hp.own (m.d, _) (List.mem_cons_self ..)⟩

set_option maxRecDepth 100000 in
theorem dSectors (m : DM) (x : MX) (D : DK) (w : World) (hR : Has w (dO D m x)) :
    Calls Try.prog 15 #[.pointer (some ⟨m.d, 0, none⟩)] w fun e w' => e = .returned (.int .i64 (D.last.length : Int)) ∧ Ext [] w w' := by
  refine enter (vs := [.pointer (some ⟨m.d, 0, none⟩)]) [] [(m.d, .cells #[.int .i64 D.fuse, .int .i64 D.steps, .bool D.down, .slice (some ⟨m.lb, 0, none⟩) D.last.length D.last.length, .map (some m.mb)] 60 (0, 0)), (m.lb, .cells ((rows D.last).toArray) 33 (0, 0)), (m.mb, .map x.1 x.2)] [] Try.func15 rfl (by kernel_rfl) (HP.ofHas hR) ?_
  refine Cfg.reg rfl [0] [] (Γ' := [(0, [], .pointer (some ⟨m.d, 0, none⟩))]) (nd := (fun _ => [])) (fun _ => by kernel_rfl) trivial ?_
  refine Cfg.reg rfl [0, 4] [] (Γ' := [(4, [], .bool false), (0, [], .pointer (some ⟨m.d, 0, none⟩))]) (nd := (fun _ => [])) (fun _ => by kernel_rfl) trivial ?_
  refine Cfg.condF rfl (b := false) (by kernel_rfl) rfl ?_
  refine Cfg.reg rfl [2] [(0, false, none), (0, false, none), (0, false, none), (0, false, none), (0, false, some (.slice (some ⟨m.lb, 0, none⟩) D.last.length D.last.length))] (Γ' := [(2, [], .int .i64 (D.last.length : Int))]) (nd := (fun S => [(∀ w1, S w1 → w1.cell? ⟨m.d, 3, none⟩ = some (.slice (some ⟨m.lb, 0, none⟩) D.last.length D.last.length))])) (fun _ => by kernel_rfl) ⟨(fun w1 h => h.rcell 0 rfl rfl), trivial⟩ ?_
  refine Cfg.ret rfl (rs := [.tmp 2]) rfl [.int .i64 (D.last.length : Int)] ⟨by kernel_rfl, trivial⟩ (fun w1 hp => ?_)
  exact ⟨by simp [resOf], hp.ext⟩

set_option maxRecDepth 100000 in
theorem dDown (m : DM) (x : MX) (D : DK) (w : World) (hR : Has w (dO D m x)) :
    Calls Try.prog 16 #[.pointer (some ⟨m.d, 0, none⟩)] w fun e w' => e = .returned (.bool D.down) ∧ Ext [] w w' := by
  refine enter (vs := [.pointer (some ⟨m.d, 0, none⟩)]) [] [(m.d, .cells #[.int .i64 D.fuse, .int .i64 D.steps, .bool D.down, .slice (some ⟨m.lb, 0, none⟩) D.last.length D.last.length, .map (some m.mb)] 60 (0, 0)), (m.lb, .cells ((rows D.last).toArray) 33 (0, 0)), (m.mb, .map x.1 x.2)] [] Try.func16 rfl (by kernel_rfl) (HP.ofHas hR) ?_
  refine Cfg.reg rfl [0] [] (Γ' := [(0, [], .pointer (some ⟨m.d, 0, none⟩))]) (nd := (fun _ => [])) (fun _ => by kernel_rfl) trivial ?_
  refine Cfg.reg rfl [2] [(0, false, none), (0, false, none), (0, false, none), (1, false, none), (1, false, none), (1, false, none), (1, false, none), (1, false, some (.bool D.down))] (Γ' := [(2, [], .bool D.down)]) (nd := (fun S => [((.bool true : Value) = .bool true), ((.bool true : Value) = .bool true), ((.bool true : Value) = .bool true), ((.bool true : Value) = .bool true), ((.bool true : Value) = .bool true), (∀ w1, S w1 → w1.cell? ⟨m.d, 2, none⟩ = some (.bool D.down))])) (fun _ => by kernel_rfl) ⟨rfl, rfl, rfl, rfl, rfl, (fun w1 h => h.rcell 0 rfl rfl), trivial⟩ ?_
  refine Cfg.ret rfl (rs := [.tmp 2]) rfl [.bool D.down] ⟨by kernel_rfl, trivial⟩ (fun w1 hp => ?_)
  exact ⟨by simp [resOf], hp.ext⟩

set_option maxRecDepth 100000 in
theorem dSteps (m : DM) (x : MX) (D : DK) (w : World) (hR : Has w (dO D m x)) :
    Calls Try.prog 17 #[.pointer (some ⟨m.d, 0, none⟩)] w fun e w' => e = .returned (.int .i64 D.steps) ∧ Ext [] w w' := by
  refine enter (vs := [.pointer (some ⟨m.d, 0, none⟩)]) [] [(m.d, .cells #[.int .i64 D.fuse, .int .i64 D.steps, .bool D.down, .slice (some ⟨m.lb, 0, none⟩) D.last.length D.last.length, .map (some m.mb)] 60 (0, 0)), (m.lb, .cells ((rows D.last).toArray) 33 (0, 0)), (m.mb, .map x.1 x.2)] [] Try.func17 rfl (by kernel_rfl) (HP.ofHas hR) ?_
  refine Cfg.reg rfl [0] [] (Γ' := [(0, [], .pointer (some ⟨m.d, 0, none⟩))]) (nd := (fun _ => [])) (fun _ => by kernel_rfl) trivial ?_
  refine Cfg.reg rfl [0, 4] [] (Γ' := [(4, [], .bool false), (0, [], .pointer (some ⟨m.d, 0, none⟩))]) (nd := (fun _ => [])) (fun _ => by kernel_rfl) trivial ?_
  refine Cfg.condF rfl (b := false) (by kernel_rfl) rfl ?_
  refine Cfg.reg rfl [2] [(0, false, none), (0, false, none), (0, false, none), (0, false, none), (0, false, some (.int .i64 D.steps))] (Γ' := [(2, [], .int .i64 D.steps)]) (nd := (fun S => [(∀ w1, S w1 → w1.cell? ⟨m.d, 1, none⟩ = some (.int .i64 D.steps))])) (fun _ => by kernel_rfl) ⟨(fun w1 h => h.rcell 0 rfl rfl), trivial⟩ ?_
  refine Cfg.ret rfl (rs := [.tmp 2]) rfl [.int .i64 D.steps] ⟨by kernel_rfl, trivial⟩ (fun w1 hp => ?_)
  exact ⟨by simp [resOf], hp.ext⟩

set_option maxRecDepth 100000 in
theorem dWrite (m : DM) (x : MX) (D : DK) (q : Int) (b : List UInt8) (w : World) (hg : DG D) (hmo : MapOk x.1 x.2 (wv2 D.wait)) (hA : Has w (dO D m x)) (hd : ((dO D m x).map (·.1)).Nodup) (hbl : b.length = 512) (hs : 0 ≤ D.steps ∧ D.steps ≤ 4611686018427387904) :
    Calls Try.prog 8 #[.pointer (some ⟨m.d, 0, none⟩), .int .i64 q, .agg (bv b)] w fun e w' => ∃ x2 : MX, MapOk x2.1 x2.2 (wv2 (writeF D q b).2.wait) ∧ e = .returned (.int .i64 (writeF D q b).1) ∧ ∃ R1, HP w [m.d, m.lb, m.mb] R1 (dO (writeF D q b).2 m x2) w' := by
  have hn := hg.n
  have hf := hg.f
  have hfc := fltF_cases D q
  refine enter (vs := [.pointer (some ⟨m.d, 0, none⟩), .int .i64 q, .agg (bv b)]) [m.d, m.lb, m.mb] [] [(m.d, .cells #[.int .i64 D.fuse, .int .i64 D.steps, .bool D.down, .slice (some ⟨m.lb, 0, none⟩) D.last.length D.last.length, .map (some m.mb)] 60 (0, 0)), (m.lb, .cells ((rows D.last).toArray) 33 (0, 0)), (m.mb, .map x.1 x.2)] Try.func8 rfl (by kernel_rfl) (HP.ofL hA hd (fun e he => by cases he) (fun e he => by cases he)) ?_
  refine Cfg.begL rfl ?_
  refine CfgL.eff (o := _) rfl (by kernel_rfl) (by kernel_rfl) (Eff.box (v := .agg (bv b)) rfl (by kernel_rfl)) ?_
  rintro bx ⟨hbx, nbx⟩
  refine CfgL.pure 1 [] (some [0, 1, 5]) (Γ' := [(5, [], .pointer (some ⟨bx, 0, none⟩)), (0, [], .pointer (some ⟨m.d, 0, none⟩)), (1, [], .int .i64 q)]) (nd := (fun _ => [])) (by kernel_rfl) (fun _ => by kernel_rfl) trivial ?_
  refine CfgL.done rfl ?_
  refine Cfg.begL rfl ?_
  refine CfgL.pure 2 [] none (Γ' := [(9, [], .int .i64 q), (8, [], .pointer (some ⟨m.d, 0, none⟩)), (5, [], .pointer (some ⟨bx, 0, none⟩)), (0, [], .pointer (some ⟨m.d, 0, none⟩)), (1, [], .int .i64 q)]) (nd := (fun _ => [])) (by kernel_rfl) (fun _ => by kernel_rfl) trivial ?_
  refine CfgL.eff (o := _) rfl (by kernel_rfl) (by kernel_rfl) (Eff.callA (vs := [.pointer (some ⟨m.d, 0, none⟩), .int .i64 q]) (.int .i64 (fltF D q)) rfl Try.func22 rfl rfl (by kernel_rfl) (fun w1 h => dFault m x D q w1 (h.has (fun e he => List.mem_cons_of_mem _ he)))) ?_
  rintro ⟨⟩ -
  refine CfgL.pure 1 [] (some [0, 1, 5, 7]) (Γ' := [(7, [], .int .i64 (fltF D q)), (5, [], .pointer (some ⟨bx, 0, none⟩)), (0, [], .pointer (some ⟨m.d, 0, none⟩)), (1, [], .int .i64 q)]) (nd := (fun _ => [])) (by kernel_rfl) (fun _ => by kernel_rfl) trivial ?_
  refine CfgL.done rfl ?_
  refine Cfg.reg rfl [0, 1, 5, 7, 12] [] (Γ' := [(12, [], .bool ((fltF D q) != (0 : Int))), (7, [], .int .i64 (fltF D q)), (5, [], .pointer (some ⟨bx, 0, none⟩)), (0, [], .pointer (some ⟨m.d, 0, none⟩)), (1, [], .int .i64 q)]) (nd := (fun _ => [])) (fun _ => by kernel_rfl) trivial ?_
  refine Cfg.cond rfl (b := ((fltF D q) != (0 : Int))) (by kernel_rfl) (fun c1r => ?_) (fun c1r => ?_)
  · have c1 : ((fltF D q) ≠ (0 : Int)) := (bne_iff_ne.1 c1r)
    refine Cfg.reg rfl [6] [] (Γ' := [(6, [], .int .i64 (fltF D q))]) (nd := (fun _ => [])) (fun _ => by kernel_rfl) trivial ?_
    refine Cfg.ret rfl (rs := [.tmp 6]) rfl [.int .i64 (fltF D q)] ⟨by kernel_rfl, trivial⟩ (fun w1 hp => ?_)
    have hx : writeF D q b = (fltF D q, D) := if_pos c1
    rw [hx]
    have h9 := hp.sub (List.sublist_cons_self _ _)
    exact ⟨x, hmo, rfl, _, h9⟩
  · have c1 : ((fltF D q) = (0 : Int)) := (bne_eq_false_iff_eq.1 c1r)
    refine Cfg.begL rfl ?_
    refine CfgL.pure 3 [] none (Γ' := [(16, [], .pointer (some ⟨m.d, 0, none⟩)), (15, [], .pointer (some ⟨m.d, 0, none⟩)), (14, [], .pointer (some ⟨m.d, 0, none⟩)), (12, [], .bool ((fltF D q) != (0 : Int))), (7, [], .int .i64 (fltF D q)), (5, [], .pointer (some ⟨bx, 0, none⟩)), (0, [], .pointer (some ⟨m.d, 0, none⟩)), (1, [], .int .i64 q)]) (nd := (fun _ => [])) (by kernel_rfl) (fun _ => by kernel_rfl) trivial ?_
    refine CfgL.eff (o := _) rfl (by kernel_rfl) (by kernel_rfl) (Eff.callM (vs := [.pointer (some ⟨m.d, 0, none⟩)]) (.bool (spF D).1) 1 (.cells (dC (spF D).2 m) 60 (0, 0)) rfl Try.func23 rfl rfl (by kernel_rfl) rfl (fun w1 h => dSpend m D w1 hf hs (h.own (m.d, _) (List.mem_of_getElem? (i := 1) rfl)))) ?_
    rintro ⟨⟩ -
    refine CfgL.pure 1 [] (some [0, 1, 5, 18]) (Γ' := [(18, [], .bool (!(spF D).1)), (5, [], .pointer (some ⟨bx, 0, none⟩)), (0, [], .pointer (some ⟨m.d, 0, none⟩)), (1, [], .int .i64 q)]) (nd := (fun _ => [])) (by kernel_rfl) (fun _ => by kernel_rfl) trivial ?_
    refine CfgL.done rfl ?_
    refine Cfg.cond rfl (b := (!(spF D).1)) (by kernel_rfl) (fun c2r => ?_) (fun c2r => ?_)
    · have c2 : ((spF D).1 = false) := (notT c2r)
      refine Cfg.reg rfl [6] [] (Γ' := [(6, [], .int .i64 13)]) (nd := (fun _ => [])) (fun _ => by kernel_rfl) trivial ?_
      refine Cfg.ret rfl (rs := [.tmp 6]) rfl [.int .i64 13] ⟨by kernel_rfl, trivial⟩ (fun w1 hp => ?_)
      have hx : writeF D q b = (13, (spF D).2) := by unfold writeF; rw [if_neg (by simp [c1]), if_neg (by simp [c2])]
      rw [hx]
      refine ⟨x, by rw [spF_wait]; exact hmo, rfl, [], ?_⟩
      have h9 := hp.sub (List.sublist_cons_self _ _)
      rw [show dO (spF D).2 m x = [(m.d, .cells (dC (spF D).2 m) 60 (0, 0)), (m.lb, .cells (rows (spF D).2.last).toArray 33 (0, 0)), (m.mb, .map x.1 x.2)] from rfl, spF_last]
      exact h9
    · have c2 : ((spF D).1 = true) := (notF c2r)
      refine Cfg.begA rfl (by kernel_rfl) [(bx, .cells (bv b) 33 (0, 0)), (m.d, .cells #[.int .i64 ((spF D).2.fuse), .int .i64 ((spF D).2.steps), .bool (spF D).2.down, .slice (some ⟨m.lb, 0, none⟩) (spF D).2.last.length (spF D).2.last.length, .map (some m.mb)] 60 (0, 0)), (m.lb, .cells ((rows D.last).toArray) 33 (0, 0))] ?_
      refine CfgA.pure [0, 1, 2, 3, 4, 5, 6] [(0, false, none), (0, false, none), (0, false, none), (0, false, none), (0, false, some (.map (some m.mb))), (0, false, none), (0, false, some (.agg (bv b)))] none (l' := #[true, true, true, true, true, true, true, false]) (by kernel_rfl) (by kernel_rfl) (.cons_cons _ (.cons_cons _ (.cons_cons _ (.cons _ .slnil)))) 1 rfl (Γ' := [(25, [], .agg (bv b)), (24, [], .int .i64 q), (23, [], .map (some m.mb)), (22, [], .pointer (some ⟨m.d, 4, none⟩)), (21, [], .pointer (some ⟨m.d, 3, none⟩)), (20, [], .pointer (some ⟨m.d, 0, none⟩)), (19, [], .pointer (some ⟨m.d, 0, none⟩)), (18, [], .bool (!(spF D).1)), (5, [], .pointer (some ⟨bx, 0, none⟩)), (0, [], .pointer (some ⟨m.d, 0, none⟩)), (1, [], .int .i64 q)]) (nd := (fun S => [(∀ w1, S w1 → w1.cell? ⟨m.d, 4, none⟩ = some (.map (some m.mb))), (∀ w1, S w1 → (loadVar 33 ⟨bx, 0, none⟩).run Try.prog w1 = .ok (.agg (bv b)) w1)])) (fun _ => by kernel_rfl) ⟨(fun w1 h => h.ocell 1 rfl rfl), (fun w1 h => load_row (h.own (bx, _) (List.mem_of_getElem? (i := 0) rfl)) Try.underlying33 rfl (by kernel_rfl) ((bv_size _).trans hbl)), trivial⟩ ?_
      refine CfgA.eff 7 (o := _) rfl (by kernel_rfl) (fuel' := 0) rfl (by kernel_rfl) (by kernel_rfl) (Eff.mapSet (r := m.mb) (k := q) (u := .agg (bv b)) (es := x.1) (ck := x.2) rfl Try.underlying56 Try.underlying3 (by kernel_rfl) (by kernel_rfl) (by kernel_rfl) hmo 3 (by kernel_rfl)) (fun _ _ => (.cons_cons _ (.cons_cons _ (.cons_cons _ (.cons _ .slnil))))) ?_
      rintro xq hxq
      refine CfgA.done (by kernel_rfl) ?_
      refine Conv.cfg (Γ' := []) (Conv.mk (by kernel_rfl)) ?_
      refine Cfg.reg rfl [6] [] (Γ' := [(6, [], .int .i64 0)]) (nd := (fun _ => [])) (fun _ => by kernel_rfl) trivial ?_
      refine Cfg.ret rfl (rs := [.tmp 6]) rfl [.int .i64 0] ⟨by kernel_rfl, trivial⟩ (fun w1 hp => ?_)
      have hx : writeF D q b = (0, { (spF D).2 with wait := wset (spF D).2.wait q b }) := by unfold writeF; rw [if_neg (by simp [c1]), if_pos (by simpa using c2)]
      rw [hx]
      refine ⟨xq, by show MapOk _ _ (wv2 (wset (spF D).2.wait q b)); rw [spF_wait, ← mset_wv]; exact hxq, rfl, [], ?_⟩
      have h9 := hp.sub (List.sublist_cons_self _ _)
      show HP w _ _ [(m.d, .cells (dC (spF D).2 m) 60 (0, 0)), (m.lb, .cells (rows (spF D).2.last).toArray 33 (0, 0)), (m.mb, .map xq.1 xq.2)] w1
      rw [spF_last]
      exact h9

end Go.Proofs.Ytnoipbbcpiaemaa
