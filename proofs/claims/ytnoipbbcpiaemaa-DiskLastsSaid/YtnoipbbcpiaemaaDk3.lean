/- disk: the sectors that wait. -/
import Derived.Test.YtnoipbbcpiaemaaDk2
import Derived.Test.YtnoipbbcpiaemaaLay
namespace Go.Proofs.Ytnoipbbcpiaemaa
open K
set_option linter.unusedVariables false

set_option maxRecDepth 100000 in
theorem dOrder (m : DM) (x : MX) (D : DK) (w : World) (hg : DG D) (hmo : MapOk x.1 x.2 (wv2 D.wait)) (hR : Has w (dO D m x)) :
    Calls Try.prog 27 #[.pointer (some ⟨m.d, 3, none⟩)] w fun e w' => ∃ o : K.Own, OwnOk o 1 D.wait.length ((keysW D.wait).map Go.encZ) ∧ e = .returned (.slice o.a D.wait.length o.c) ∧ Has w' (o.o 3 ((keysW D.wait).map Go.encZ)) ∧ (∀ x ∈ o.o 3 ((keysW D.wait).map Go.encZ), w.heap.size ≤ x.1) ∧ Ext [] w w' := by
  have hn := hg.n
  refine enter (vs := [.pointer (some ⟨m.d, 3, none⟩)]) [] [(m.d, .cells #[.int .i64 D.fuse, .int .i64 D.steps, .bool D.down, .slice (some ⟨m.lb, 0, none⟩) D.last.length D.last.length, .map (some m.mb)] 60 (0, 0)), (m.lb, .cells ((rows D.last).toArray) 33 (0, 0)), (m.mb, .map x.1 x.2)] [] Try.func27 rfl (by kernel_rfl) (HP.ofHas hR) ?_
  refine Cfg.reg rfl [0] [] (Γ' := [(0, [], .pointer (some ⟨m.d, 3, none⟩))]) (nd := (fun _ => [])) (fun _ => by kernel_rfl) trivial ?_
  refine Cfg.begL rfl ?_
  refine CfgL.pure 4 [(0, false, none), (0, false, none), (0, false, none), (0, false, some (.map (some m.mb)))] none (Γ' := [(6, [], .map (some m.mb)), (5, [], .pointer (some ⟨m.d, 4, none⟩)), (4, [], .pointer (some ⟨m.d, 3, none⟩)), (3, [], .pointer (some ⟨m.d, 3, none⟩)), (0, [], .pointer (some ⟨m.d, 3, none⟩))]) (nd := (fun S => [(∀ w1, S w1 → w1.cell? ⟨m.d, 4, none⟩ = some (.map (some m.mb)))])) (by kernel_rfl) (fun _ => by kernel_rfl) ⟨(fun w1 h => h.rcell 0 rfl rfl), trivial⟩ ?_
  refine CfgL.eff (o := _) rfl (by kernel_rfl) (by kernel_rfl) (Eff.callN (vs := [.map (some m.mb)]) (fun tb => .func (.func 41) #[] #[.pointer (some ⟨tb, 0, none⟩)]) (fun tb => tb) (fun _ => .cells #[.map (some m.mb)] 56 (0, 0)) (fun _ => True) rfl Try.func37 rfl rfl (by kernel_rfl) (fun w1 h => mKeys m.mb w1)) ?_
  rintro tb -
  refine CfgL.eff (o := _) rfl (by kernel_rfl) (by kernel_rfl) (Eff.callOF (vs := [.func (.func 41) #[] #[.pointer (some ⟨tb, 0, none⟩)]]) 3 1 D.wait.length ((keysW D.wait).map Go.encZ) [(tb, .cells #[.map (some m.mb)] 56 (0, 0))] [] rfl rfl Try.func36 rfl rfl (by kernel_rfl) (fun w1 h => by have h9 := sorted_gives L.sortedKeys37 tb m.mb x.1 x.2 (wv2 D.wait) w1 hmo (h.ro (m.mb, _) (List.mem_of_getElem? (i := 2) rfl)) (fun p hp => by obtain ⟨x, hx, rfl⟩ := List.mem_map.1 hp; have := hg.k x hx; simp only; omega) (by unfold wv2; rw [List.length_map]; exact hg.wl) (h.ocell 0 rfl rfl); rw [show (wv2 D.wait).length = D.wait.length by unfold wv2; rw [List.length_map]] at h9; exact h9)) ?_
  rintro o ko
  refine CfgL.pure 1 [] (some [2]) (Γ' := [(2, [], .slice (Own.a o) D.wait.length (Own.c o))]) (nd := (fun _ => [])) (by kernel_rfl) (fun _ => by kernel_rfl) trivial ?_
  refine CfgL.done rfl ?_
  refine Cfg.ret rfl (rs := [.tmp 2]) rfl [.slice (Own.a o) D.wait.length (Own.c o)] ⟨by kernel_rfl, trivial⟩ (fun w1 hp => ?_)
  exact ⟨o, ko, rfl, fun x hx => hp.own x (by simp [hx]), fun x hx => (hp.mine x (by simp [hx])).resolve_right (fun h => by cases h), hp.ext⟩

set_option maxRecDepth 100000 in
theorem dWaits (m : DM) (x : MX) (D : DK) (w : World) (hg : DG D) (hmo : MapOk x.1 x.2 (wv2 D.wait)) (hR : Has w (dO D m x)) :
    Calls Try.prog 11 #[.pointer (some ⟨m.d, 0, none⟩)] w fun e w' => ∃ o : K.Own, OwnOk o 1 D.wait.length ((keysW D.wait).map Go.encZ) ∧ e = .returned (.slice o.a D.wait.length o.c) ∧ Has w' (o.o 3 ((keysW D.wait).map Go.encZ)) ∧ (∀ x ∈ o.o 3 ((keysW D.wait).map Go.encZ), w.heap.size ≤ x.1) ∧ Ext [] w w' := by
  have hn := hg.n
  refine enter (vs := [.pointer (some ⟨m.d, 0, none⟩)]) [] [(m.d, .cells #[.int .i64 D.fuse, .int .i64 D.steps, .bool D.down, .slice (some ⟨m.lb, 0, none⟩) D.last.length D.last.length, .map (some m.mb)] 60 (0, 0)), (m.lb, .cells ((rows D.last).toArray) 33 (0, 0)), (m.mb, .map x.1 x.2)] [] Try.func11 rfl (by kernel_rfl) (HP.ofHas hR) ?_
  refine Cfg.reg rfl [0] [] (Γ' := [(0, [], .pointer (some ⟨m.d, 0, none⟩))]) (nd := (fun _ => [])) (fun _ => by kernel_rfl) trivial ?_
  refine Cfg.reg rfl [0, 4] [] (Γ' := [(4, [], .bool false), (0, [], .pointer (some ⟨m.d, 0, none⟩))]) (nd := (fun _ => [])) (fun _ => by kernel_rfl) trivial ?_
  refine Cfg.condF rfl (b := false) (by kernel_rfl) rfl ?_
  refine Cfg.begL rfl ?_
  refine CfgL.pure 3 [] none (Γ' := [(7, [], .pointer (some ⟨m.d, 3, none⟩)), (6, [], .pointer (some ⟨m.d, 0, none⟩)), (5, [], .pointer (some ⟨m.d, 0, none⟩)), (4, [], .bool false), (0, [], .pointer (some ⟨m.d, 0, none⟩))]) (nd := (fun _ => [])) (by kernel_rfl) (fun _ => by kernel_rfl) trivial ?_
  refine CfgL.eff (o := _) rfl (by kernel_rfl) (by kernel_rfl) (Eff.callOF (vs := [.pointer (some ⟨m.d, 3, none⟩)]) 3 1 D.wait.length ((keysW D.wait).map Go.encZ) [] [] rfl rfl Try.func27 rfl rfl (by kernel_rfl) (fun w1 h => dOrder m x D w1 hg hmo (h.hasR (fun e he => he)))) ?_
  rintro o ko
  refine CfgL.pure 1 [] (some [2]) (Γ' := [(2, [], .slice (Own.a o) D.wait.length (Own.c o))]) (nd := (fun _ => [])) (by kernel_rfl) (fun _ => by kernel_rfl) trivial ?_
  refine CfgL.done rfl ?_
  refine Cfg.ret rfl (rs := [.tmp 2]) rfl [.slice (Own.a o) D.wait.length (Own.c o)] ⟨by kernel_rfl, trivial⟩ (fun w1 hp => ?_)
  exact ⟨o, ko, rfl, fun x hx => hp.own x (by simp [hx]), fun x hx => (hp.mine x (by simp [hx])).resolve_right (fun h => by cases h), hp.ext⟩

end Go.Proofs.Ytnoipbbcpiaemaa
