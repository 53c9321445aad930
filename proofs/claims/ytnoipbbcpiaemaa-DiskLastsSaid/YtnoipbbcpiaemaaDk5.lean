/- disk: what is let last. -/
import Derived.Test.YtnoipbbcpiaemaaDk4
import Derived.Test.YtnoipbbcpiaemaaDk3
import Derived.Test.YtnoipbbcpiaemaaK23
namespace Go.Proofs.Ytnoipbbcpiaemaa
open K
set_option linter.unusedVariables false

/-- What lasts behind a settling of the sectors ks, place by place. -/
def setl (p : Nat → Bool) (W : Wt) : Nat → List Int → List (List UInt8) → List (List UInt8)
  | _, [], L => L
  | i, q :: ks, L => setl p W (i + 1) ks (if p i = true then L.set q.toNat ((wget W q).getD zb) else L)
def settleF (p : Nat → Bool) (D : DK) : DK := { D with last := setl p D.wait 0 (keysW D.wait) D.last, wait := [] }
theorem setl_len (p : Nat → Bool) (W : Wt) : ∀ (ks : List Int) (i : Nat) (L : List (List UInt8)), (setl p W i ks L).length = L.length
  | [], _, _ => rfl
  | q :: ks, i, L => by rw [setl, setl_len p W ks]; split <;> simp
theorem wgetD_len {W : Wt} (h : ∀ p ∈ W, p.2.length = 512) (q : Int) : ((wget W q).getD zb).length = 512 := by
  cases hg : wget W q with
  | none => exact zb_len
  | some b => exact h _ (wget_mem hg)
theorem W5.set {L : List (List UInt8)} {b : List UInt8} (h : W5 L) (hb : b.length = 512) (i : Nat) : W5 (L.set i b) := fun x hx => by
  rcases List.mem_or_eq_of_mem_set hx with hx | rfl
  · exact h x hx
  · exact hb
theorem setl_w5 {W : Wt} (hw : ∀ p ∈ W, p.2.length = 512) (p : Nat → Bool) : ∀ (ks : List Int) (i : Nat) {L : List (List UInt8)}, W5 L → W5 (setl p W i ks L)
  | [], _, _, h => h
  | q :: ks, i, L, h => by
    rw [setl]
    refine setl_w5 hw p ks _ ?_
    split
    · exact h.set (wgetD_len hw q) _
    · exact h
theorem DG.settle {D : DK} (h : DG D) (p : Nat → Bool) : DG (settleF p D) :=
  ⟨setl_w5 h.ww p _ _ h.w, (fun _ hp => by cases hp), (fun _ hp => by cases hp), by show (setl _ _ _ _ _).length ≤ _; rw [setl_len]; exact h.n, List.nodup_nil, h.f⟩
theorem keys_mem (W : Wt) (x : Int) : x ∈ keysW W ↔ x ∈ W.map (·.1) := by
  unfold keysW
  rw [(srt_perm _).mem_iff]
  unfold wv2
  rw [List.map_map]; rfl
theorem keys_in {D : DK} (h : DG D) {k : Nat} (hk : k < D.wait.length) : 0 ≤ (keysW D.wait).getD k 0 ∧ (keysW D.wait).getD k 0 < (D.last.length : Int) := by
  have h1 : k < (keysW D.wait).length := by rw [keysW_len]; exact hk
  have h2 : (keysW D.wait).getD k 0 ∈ keysW D.wait := by rw [List.getD_eq_getElem?_getD, List.getElem?_eq_getElem h1]; exact List.getElem_mem h1
  obtain ⟨p, hp, e⟩ := List.mem_map.1 ((keys_mem _ _).1 h2)
  rw [← e]; exact h.k p hp
theorem key_cell {w : World} {ob k : Nat} {ks : List Int} {oj : List Value} {t : TypeId} {fr : Nat × Nat} (h : w.heap[ob]? = some (.cells (ks.map Go.encZ ++ oj).toArray t fr)) (hk : k < ks.length) : w.cell? ⟨ob, k, none⟩ = some (.int .i64 (ks.getD k 0)) := by
  rw [cell_cells h, List.getElem?_toArray, List.getElem?_append_left (by rw [List.length_map]; exact hk), List.getElem?_map, List.getD_eq_getElem?_getD, List.getElem?_eq_getElem hk]
  rfl
theorem setl_step {p : Nat → Bool} {W : Wt} {k : Nat} {ks : List Int} (h : k < ks.length) (L : List (List UInt8)) : setl p W k (ks.drop k) L = setl p W (k + 1) (ks.drop (k + 1)) (if p k = true then L.set (ks.getD k 0).toNat ((wget W (ks.getD k 0)).getD zb) else L) := by
  rw [List.drop_eq_getElem_cons h, setl, List.getD_eq_getElem?_getD, List.getElem?_eq_getElem h]; rfl
def barF (D : DK) : Int × DK := if (spF D).1 = true then (0, settleF (fun _ => true) (spF D).2) else (13, (spF D).2)
def crashF (kept : List Bool) (D : DK) : DK := { settleF (fun i => kept.getD i false) D with fuse := -1, down := false }
theorem DG.bar {D : DK} (h : DG D) : DG (barF D).2 := by
  unfold barF; split
  · exact h.sp.settle _
  · exact h.sp
theorem DG.crash {D : DK} (h : DG D) (kept : List Bool) : DG (crashF kept D) := by
  have h1 := h.settle (fun i => kept.getD i false)
  exact ⟨h1.w, h1.ww, h1.k, h1.n, h1.nd, ⟨by show (-1 : Int) ≤ -1; decide, by show (-1 : Int) ≤ 9223372036854775807; decide⟩⟩
theorem barF_len (D : DK) : (barF D).2.last.length = D.last.length := by
  unfold barF; split
  · show (setl _ _ _ _ _).length = _; rw [setl_len, spF_last]
  · rw [spF_last]
theorem barF_steps (D : DK) : D.steps ≤ (barF D).2.steps ∧ (barF D).2.steps ≤ D.steps + 1 := by
  have := spF_steps D
  unfold barF; split
  · exact this
  · exact this
theorem crashF_len (kept : List Bool) (D : DK) : (crashF kept D).last.length = D.last.length := setl_len _ _ _ _ _
theorem newZ {n : Nat} : rows (List.replicate n zb) = (List.replicate n (bv zb).toList).flatten := by unfold rows; rw [List.flatMap_replicate]

set_option maxRecDepth 100000 in
theorem dSettle (m : DM) (x : MX) (D : DK) (f : Nat) (fnF : Func) (cF : Code) (caps : List Value) (p : Nat → Bool) (Rk : List (Nat × Obj)) (w : World) (hg : DG D) (hmo : MapOk x.1 x.2 (wv2 D.wait)) (hA : Has w (dO D m x)) (hd : ((dO D m x).map (·.1)).Nodup) (hfn : Try.prog.funcs[f]? = some fnF) (hnm : (fnF.name == "runtime.NumGoroutine") = false) (hcF : fnF.body = some cF) (hso : ∀ (i : Nat) (w : World), i ≤ 4096 → Has w Rk → Calls Try.prog f ([Value.int .i64 (i : Int)] ++ caps).toArray w fun e w' => e = .returned (.bool (p i)) ∧ Ext [] w w') (hRk : Has w Rk) (hnk : ∀ e ∈ Rk, e.1 ∉ (dO D m x).map (·.1)) :
    Calls Try.prog 24 #[.pointer (some ⟨m.d, 3, none⟩), .func (.func f) #[] caps.toArray] w fun e w' => ∃ x2 : MX, MapOk x2.1 x2.2 (wv2 (settleF p D).wait) ∧ e = .returned (.tuple #[]) ∧ ∃ R1, HP w [m.d, m.lb, m.mb] R1 (dO (settleF p D) m x2) w' := by
  have hn := hg.n
  have hwn := hg.wn
  refine enter (vs := [.pointer (some ⟨m.d, 3, none⟩), .func (.func f) #[] caps.toArray]) [m.d, m.lb, m.mb] Rk [(m.d, .cells #[.int .i64 D.fuse, .int .i64 D.steps, .bool D.down, .slice (some ⟨m.lb, 0, none⟩) D.last.length D.last.length, .map (some m.mb)] 60 (0, 0)), (m.lb, .cells ((rows D.last).toArray) 33 (0, 0)), (m.mb, .map x.1 x.2)] Try.func24 rfl (by kernel_rfl) (HP.ofL hA hd hRk hnk) ?_
  refine Cfg.begL rfl ?_
  refine CfgL.pure 1 [] none (Γ' := [(6, [], .pointer (some ⟨m.d, 3, none⟩)), (0, [], .pointer (some ⟨m.d, 3, none⟩)), (1, [], .func (.func f) #[] caps.toArray)]) (nd := (fun _ => [])) (by kernel_rfl) (fun _ => by kernel_rfl) trivial ?_
  refine CfgL.eff (o := _) rfl (by kernel_rfl) (by kernel_rfl) (Eff.callOF (vs := [.pointer (some ⟨m.d, 3, none⟩)]) 3 1 D.wait.length ((keysW D.wait).map Go.encZ) [(m.d, .cells #[.int .i64 D.fuse, .int .i64 D.steps, .bool D.down, .slice (some ⟨m.lb, 0, none⟩) D.last.length D.last.length, .map (some m.mb)] 60 (0, 0)), (m.lb, .cells ((rows D.last).toArray) 33 (0, 0)), (m.mb, .map x.1 x.2)] [] rfl rfl Try.func27 rfl rfl (by kernel_rfl) (fun w1 h => dOrder m x D w1 hg hmo (h.has (fun e he => he)))) ?_
  rintro o ko
  refine CfgL.pure 2 [] (some [0, 1, 7, 8, 9]) (Γ' := [(9, [], .int .i64 0), (8, [], .int .i64 (D.wait.length : Int)), (7, [], .slice (Own.a o) D.wait.length (Own.c o)), (0, [], .pointer (some ⟨m.d, 3, none⟩)), (1, [], .func (.func f) #[] caps.toArray)]) (nd := (fun _ => [])) (by kernel_rfl) (fun _ => by kernel_rfl) trivial ?_
  refine CfgL.done rfl ?_
  refine Cfg.loop rfl (ι := Nat × List (List UInt8)) (fun (xz : Nat × List (List UInt8)) => match xz with | (k, L) => [(9, [], .int .i64 (k : Int)), (8, [], .int .i64 (D.wait.length : Int)), (7, [], .slice (Own.a o) D.wait.length (Own.c o)), (0, [], .pointer (some ⟨m.d, 3, none⟩)), (1, [], .func (.func f) #[] caps.toArray)]) (fun (xz : Nat × List (List UInt8)) => match xz with | (k, L) => ([(m.d, .cells #[.int .i64 D.fuse, .int .i64 D.steps, .bool D.down, .slice (some ⟨m.lb, 0, none⟩) D.last.length D.last.length, .map (some m.mb)] 60 (0, 0)), (m.lb, .cells ((rows L).toArray) 33 (0, 0)), (m.mb, .map x.1 x.2)] ++ (Own.o 3 ((keysW D.wait).map Go.encZ) o ++ []))) (fun (xz : Nat × List (List UInt8)) => match xz with | (k, L) => (k ≤ D.wait.length) ∧ (W5 L) ∧ (L.length = D.last.length) ∧ (setl p D.wait k ((keysW D.wait).drop k) L = setl p D.wait 0 (keysW D.wait) D.last)) (fun (xz : Nat × List (List UInt8)) => match xz with | (k, L) => D.wait.length - k) (0, D.last) ?_ (Conv.mk (by kernel_rfl)) (.cons_cons _ (.cons_cons _ (.cons_cons _ (List.Sublist.refl _)))) ?_
  · exact ⟨Nat.zero_le _, hg.w, rfl, rfl⟩
  · rintro ⟨k, L⟩ ⟨hk, hW, hl, hs⟩
    refine Cfg.reg rfl [0, 1, 7, 8, 9, 10] [] (Γ' := [(10, [], .bool (decide ((k : Int) < (D.wait.length : Int)))), (9, [], .int .i64 (k : Int)), (8, [], .int .i64 (D.wait.length : Int)), (7, [], .slice (Own.a o) D.wait.length (Own.c o)), (0, [], .pointer (some ⟨m.d, 3, none⟩)), (1, [], .func (.func f) #[] caps.toArray)]) (nd := (fun _ => [])) (fun _ => by kernel_rfl) trivial ?_
    refine Cfg.cond rfl (b := (decide ((k : Int) < (D.wait.length : Int)))) (by kernel_rfl) (fun c1r => ?_) (fun c1r => ?_)
    · have c1 : ((k : Int) < (D.wait.length : Int)) := (of_decide_eq_true c1r)
      obtain ⟨⟨ob, oc, oj⟩, rfl⟩ := own_some ko (by omega)
      refine Cfg.setO (O' := [(m.d, .cells #[.int .i64 D.fuse, .int .i64 D.steps, .bool D.down, .slice (some ⟨m.lb, 0, none⟩) D.last.length D.last.length, .map (some m.mb)] 60 (0, 0)), (m.lb, .cells ((rows L).toArray) 33 (0, 0)), (m.mb, .map x.1 x.2), (ob, .cells ((((keysW D.wait).map Go.encZ) ++ oj).toArray) 3 (0, 0))]) rfl ?_
      refine Conv.cfg (Γ' := [(10, [], .bool (decide ((k : Int) < (D.wait.length : Int)))), (9, [], .int .i64 (k : Int)), (8, [], .int .i64 (D.wait.length : Int)), (7, [], .slice (some ⟨ob, 0, none⟩) D.wait.length oc), (0, [], .pointer (some ⟨m.d, 3, none⟩)), (1, [], .func (.func f) #[] caps.toArray)]) (Conv.mk (by kernel_rfl)) ?_
      have hki := keys_in hg (k := k) (by omega)
      refine Cfg.reg rfl [0, 1, 4, 5, 7, 8, 9] [(0, false, none), (0, false, none), (0, false, some (.int .i64 ((keysW D.wait).getD k 0)))] (Γ' := [(5, [], .int .i64 ((keysW D.wait).getD k 0)), (4, [], .int .i64 (k : Int)), (9, [], .int .i64 (k : Int)), (8, [], .int .i64 (D.wait.length : Int)), (7, [], .slice (some ⟨ob, 0, none⟩) D.wait.length oc), (0, [], .pointer (some ⟨m.d, 3, none⟩)), (1, [], .func (.func f) #[] caps.toArray)]) (nd := (fun S => [(0 ≤ (k : Int) ∧ (k : Int) < (D.wait.length : Int)), (∀ w1, S w1 → w1.cell? ⟨ob, k, none⟩ = some (.int .i64 ((keysW D.wait).getD k 0)))])) (fun _ => by kernel_rfl) ⟨(by omega), (fun w1 h => key_cell (h.own (ob, _) (List.mem_of_getElem? (i := 3) rfl)) (by rw [keysW_len]; omega)), trivial⟩ ?_
      refine Cfg.begL rfl ?_
      refine CfgL.pure 2 [] none (Γ' := [(15, [], .int .i64 (k : Int)), (14, [], .func (.func f) #[] caps.toArray), (5, [], .int .i64 ((keysW D.wait).getD k 0)), (4, [], .int .i64 (k : Int)), (9, [], .int .i64 (k : Int)), (8, [], .int .i64 (D.wait.length : Int)), (7, [], .slice (some ⟨ob, 0, none⟩) D.wait.length oc), (0, [], .pointer (some ⟨m.d, 3, none⟩)), (1, [], .func (.func f) #[] caps.toArray)]) (nd := (fun _ => [])) (by kernel_rfl) (fun _ => by kernel_rfl) trivial ?_
      refine CfgL.eff (o := _) rfl (by kernel_rfl) (by kernel_rfl) (Eff.callAVC (vs := [.int .i64 (k : Int)]) (.bool (p k)) caps rfl (by kernel_rfl) hfn hnm hcF (by kernel_rfl) (fun w1 h => hso k w1 (by omega) (h.hasR (fun e he => he)))) ?_
      rintro ⟨⟩ -
      refine CfgL.done rfl ?_
      refine Conv.cfg (Γ' := [(16, [], .bool (p k)), (5, [], .int .i64 ((keysW D.wait).getD k 0)), (9, [], .int .i64 (k : Int)), (8, [], .int .i64 (D.wait.length : Int)), (7, [], .slice (some ⟨ob, 0, none⟩) D.wait.length oc), (0, [], .pointer (some ⟨m.d, 3, none⟩)), (1, [], .func (.func f) #[] caps.toArray)]) (Conv.mk (by kernel_rfl)) ?_
      refine Cfg.cond rfl (b := (p k)) (by kernel_rfl) (fun c2r => ?_) (fun c2r => ?_)
      · have c2 : ((p k) = true) := c2r
        refine Cfg.begA rfl (by kernel_rfl) [(m.d, .cells #[.int .i64 D.fuse, .int .i64 D.steps, .bool D.down, .slice (some ⟨m.lb, 0, none⟩) D.last.length D.last.length, .map (some m.mb)] 60 (0, 0)), (m.mb, .map x.1 x.2), (ob, .cells ((((keysW D.wait).map Go.encZ) ++ oj).toArray) 3 (0, 0))] ?_
        refine CfgA.pure [0, 1, 2, 3, 4, 5, 6, 7, 8, 9] [(0, false, none), (0, false, none), (0, false, none), (0, false, some (.slice (some ⟨m.lb, 0, none⟩) D.last.length D.last.length)), (0, false, none), (0, false, none), (0, false, none), (0, false, none), (0, false, some (.map (some m.mb)))] none (l' := #[true, true, true, true, true, true, true, true, true, true, false, false, false]) (by kernel_rfl) (by kernel_rfl) (.cons_cons _ (.cons _ (.cons_cons _ (.cons_cons _ .slnil)))) 3 rfl (Γ' := [(26, [], .int .i64 ((keysW D.wait).getD k 0)), (25, [], .map (some m.mb)), (24, [], .pointer (some ⟨m.d, 4, none⟩)), (23, [], .pointer (some ⟨m.d, 3, none⟩)), (22, [], .pointer (some ⟨m.d, 3, none⟩)), (21, [], .int .i64 ((keysW D.wait).getD k 0)), (20, [], .slice (some ⟨m.lb, 0, none⟩) D.last.length D.last.length), (19, [], .pointer (some ⟨m.d, 3, none⟩)), (18, [], .pointer (some ⟨m.d, 3, none⟩)), (17, [], .pointer (some ⟨m.d, 3, none⟩)), (16, [], .bool (p k)), (5, [], .int .i64 ((keysW D.wait).getD k 0)), (9, [], .int .i64 (k : Int)), (8, [], .int .i64 (D.wait.length : Int)), (7, [], .slice (some ⟨ob, 0, none⟩) D.wait.length oc), (0, [], .pointer (some ⟨m.d, 3, none⟩)), (1, [], .func (.func f) #[] caps.toArray)]) (nd := (fun S => [(∀ w1, S w1 → w1.cell? ⟨m.d, 3, none⟩ = some (.slice (some ⟨m.lb, 0, none⟩) D.last.length D.last.length)), (∀ w1, S w1 → w1.cell? ⟨m.d, 4, none⟩ = some (.map (some m.mb)))])) (fun _ => by kernel_rfl) ⟨(fun w1 h => h.ocell 0 rfl rfl), (fun w1 h => h.ocell 0 rfl rfl), trivial⟩ ?_
        refine CfgA.eff 10 (o := _) rfl (by kernel_rfl) (fuel' := 2) rfl (by kernel_rfl) (by kernel_rfl) (Eff.waitGet (r := m.mb) (k := ((keysW D.wait).getD k 0)) rfl rfl (by kernel_rfl) (by kernel_rfl) hmo (fun w1 h => h.own (m.mb, _) (List.mem_of_getElem? (i := 2) rfl))) (fun _ _ => (.cons_cons _ (.cons _ (.cons_cons _ (.cons_cons _ .slnil))))) ?_
        rintro ⟨⟩ -
        refine CfgA.pure [11] [] none (l' := #[true, true, true, true, true, true, true, true, true, true, true, true, false]) (by kernel_rfl) (by kernel_rfl) (.cons_cons _ (.cons _ (.cons_cons _ (.cons_cons _ .slnil)))) 1 rfl (Γ' := [(28, [], .pointer (some ⟨m.lb, ((((keysW D.wait).getD k 0)).toNat * 512), none⟩)), (27, [], .agg (bv ((wget D.wait (((keysW D.wait).getD k 0))).getD zb))), (26, [], .int .i64 ((keysW D.wait).getD k 0)), (25, [], .map (some m.mb)), (24, [], .pointer (some ⟨m.d, 4, none⟩)), (23, [], .pointer (some ⟨m.d, 3, none⟩)), (22, [], .pointer (some ⟨m.d, 3, none⟩)), (21, [], .int .i64 ((keysW D.wait).getD k 0)), (20, [], .slice (some ⟨m.lb, 0, none⟩) D.last.length D.last.length), (19, [], .pointer (some ⟨m.d, 3, none⟩)), (18, [], .pointer (some ⟨m.d, 3, none⟩)), (17, [], .pointer (some ⟨m.d, 3, none⟩)), (16, [], .bool (p k)), (5, [], .int .i64 ((keysW D.wait).getD k 0)), (9, [], .int .i64 (k : Int)), (8, [], .int .i64 (D.wait.length : Int)), (7, [], .slice (some ⟨ob, 0, none⟩) D.wait.length oc), (0, [], .pointer (some ⟨m.d, 3, none⟩)), (1, [], .func (.func f) #[] caps.toArray)]) (nd := (fun _ => [(0 ≤ ((keysW D.wait).getD k 0) ∧ ((keysW D.wait).getD k 0) < (D.last.length : Int))])) (fun _ => by kernel_rfl) ⟨(by omega), trivial⟩ ?_
        refine CfgA.eff 12 (o := _) rfl (by kernel_rfl) (fuel' := 0) rfl (by kernel_rfl) (by kernel_rfl) (Eff.storeN (b := m.lb) (off := ((((keysW D.wait).getD k 0)).toNat * 512)) (vs := (bv ((wget D.wait (((keysW D.wait).getD k 0))).getD zb))) (n := 512) rfl (by kernel_rfl) (by kernel_rfl) (by kernel_rfl) ((bv_size _).trans (wgetD_len hg.ww _)) (all_bv _) 1 (cs := (rows L).toArray) (e := 33) (by kernel_rfl) (by rw [List.size_toArray, rows_len hW]; omega)) (fun _ _ => (.cons_cons _ (.cons _ (.cons_cons _ (.cons_cons _ .slnil))))) ?_
        rintro ⟨⟩ -
        refine CfgA.setO (O' := [(m.d, .cells #[.int .i64 D.fuse, .int .i64 D.steps, .bool D.down, .slice (some ⟨m.lb, 0, none⟩) D.last.length D.last.length, .map (some m.mb)] 60 (0, 0)), (m.lb, .cells ((rows (L.set ((keysW D.wait).getD k 0).toNat ((wget D.wait (((keysW D.wait).getD k 0))).getD zb))).toArray) 33 (0, 0)), (m.mb, .map x.1 x.2), (ob, .cells ((((keysW D.wait).map Go.encZ) ++ oj).toArray) 3 (0, 0))]) (congrArg (fun (xq : Array Value) => ([(m.d, .cells #[.int .i64 D.fuse, .int .i64 D.steps, .bool D.down, .slice (some ⟨m.lb, 0, none⟩) D.last.length D.last.length, .map (some m.mb)] 60 (0, 0)), (m.lb, .cells xq 33 (0, 0)), (m.mb, .map x.1 x.2), (ob, .cells ((((keysW D.wait).map Go.encZ) ++ oj).toArray) 3 (0, 0))] : List (Nat × Obj))) (rows_set hW (wgetD_len hg.ww _) (by omega) rfl)) ?_
        refine CfgA.done (by kernel_rfl) ?_
        refine Conv.cfg (Γ' := [(9, [], .int .i64 (k : Int)), (8, [], .int .i64 (D.wait.length : Int)), (7, [], .slice (some ⟨ob, 0, none⟩) D.wait.length oc), (0, [], .pointer (some ⟨m.d, 3, none⟩)), (1, [], .func (.func f) #[] caps.toArray)]) (Conv.mk (by kernel_rfl)) ?_
        refine Cfg.reg rfl [0, 1, 7, 8, 9] [] (Γ' := [(9, [], .int .i64 ((k : Int) + 1)), (8, [], .int .i64 (D.wait.length : Int)), (7, [], .slice (some ⟨ob, 0, none⟩) D.wait.length oc), (0, [], .pointer (some ⟨m.d, 3, none⟩)), (1, [], .func (.func f) #[] caps.toArray)]) (nd := (fun _ => [((-9223372036854775808 : Int) ≤ ((k : Int) + 1) ∧ ((k : Int) + 1) ≤ 9223372036854775807)])) (fun _ => by kernel_rfl) ⟨(by omega), trivial⟩ ?_
        have hst := setl_step (p := p) (W := D.wait) (k := k) (ks := keysW D.wait) (by rw [keysW_len]; omega) L
        rw [hs, if_pos c2] at hst
        refine Cfg.again rfl (k + 1, (L.set ((keysW D.wait).getD k 0).toNat ((wget D.wait ((keysW D.wait).getD k 0)).getD zb))) ⟨by omega, hW.set (wgetD_len hg.ww _) _, by rw [List.length_set]; exact hl, hst.symm⟩ (by show D.wait.length - (k + 1) < D.wait.length - k; omega) (Conv.mk (by kernel_rfl)) (List.Sublist.refl _)
      · have c2 : ((p k) = false) := c2r
        refine Cfg.reg rfl [0, 1, 7, 8, 9] [] (Γ' := [(9, [], .int .i64 ((k : Int) + 1)), (8, [], .int .i64 (D.wait.length : Int)), (7, [], .slice (some ⟨ob, 0, none⟩) D.wait.length oc), (0, [], .pointer (some ⟨m.d, 3, none⟩)), (1, [], .func (.func f) #[] caps.toArray)]) (nd := (fun _ => [((-9223372036854775808 : Int) ≤ ((k : Int) + 1) ∧ ((k : Int) + 1) ≤ 9223372036854775807)])) (fun _ => by kernel_rfl) ⟨(by omega), trivial⟩ ?_
        have hst := setl_step (p := p) (W := D.wait) (k := k) (ks := keysW D.wait) (by rw [keysW_len]; omega) L
        rw [hs, if_neg (by simp [c2])] at hst
        refine Cfg.again rfl (k + 1, L) ⟨by omega, hW, hl, hst.symm⟩ (by show D.wait.length - (k + 1) < D.wait.length - k; omega) (Conv.mk (by kernel_rfl)) (List.Sublist.refl _)
    · have c1 : (¬ ((k : Int) < (D.wait.length : Int))) := (of_decide_eq_false c1r)
      refine Cfg.begL rfl ?_
      refine CfgL.pure 4 [(0, false, none), (0, false, none), (0, false, none), (0, false, some (.map (some m.mb)))] none (Γ' := [(33, [], .map (some m.mb)), (32, [], .pointer (some ⟨m.d, 4, none⟩)), (31, [], .pointer (some ⟨m.d, 3, none⟩)), (30, [], .pointer (some ⟨m.d, 3, none⟩)), (10, [], .bool (decide ((k : Int) < (D.wait.length : Int)))), (9, [], .int .i64 (k : Int)), (8, [], .int .i64 (D.wait.length : Int)), (7, [], .slice (Own.a o) D.wait.length (Own.c o)), (0, [], .pointer (some ⟨m.d, 3, none⟩)), (1, [], .func (.func f) #[] caps.toArray)]) (nd := (fun S => [(∀ w1, S w1 → w1.cell? ⟨m.d, 4, none⟩ = some (.map (some m.mb)))])) (by kernel_rfl) (fun _ => by kernel_rfl) ⟨(fun w1 h => h.ocell 0 rfl rfl), trivial⟩ ?_
      refine CfgL.eff (o := _) rfl (by kernel_rfl) (by kernel_rfl) (Eff.mapClear (r := m.mb) (es := x.1) (ck := x.2) rfl Try.underlying56 (by kernel_rfl) 2 rfl) ?_
      rintro ⟨⟩ -
      refine CfgL.done rfl ?_
      refine Conv.cfg (Γ' := []) (Conv.mk (by kernel_rfl)) ?_
      refine Cfg.fin rfl (rs := []) rfl [] trivial (fun w1 hp => ?_)
      have hk2 : k = D.wait.length := by omega
      rw [List.drop_eq_nil_of_le (by rw [keysW_len]; omega), setl] at hs
      have h8 : HP w [m.d, m.lb, m.mb] Rk ([(m.d, .cells #[.int .i64 D.fuse, .int .i64 D.steps, .bool D.down, .slice (some ⟨m.lb, 0, none⟩) D.last.length D.last.length, .map (some m.mb)] 60 (0, 0)), (m.lb, .cells ((rows L).toArray) 33 (0, 0)), (m.mb, .map #[] x.2)] ++ (Own.o 3 ((keysW D.wait).map Go.encZ) o ++ [])) w1 := hp
      have h9 := h8.sub (List.sublist_append_left _ _)
      rw [← hl] at h9
      subst hs
      exact ⟨(#[], x.2), MapOk.empty _, rfl, Rk, h9⟩

set_option maxRecDepth 100000 in
theorem dBar1 (i : Nat) (w : World) :
    Calls Try.prog 25 #[.int .i64 (i : Int)] w fun e w' => e = .returned (.bool true) ∧ Ext [] w w' := by
  refine enter (vs := [.int .i64 (i : Int)]) [] [] [] Try.func25 rfl (by kernel_rfl) (HP.start w) ?_
  refine Cfg.reg rfl [] [] (Γ' := []) (nd := (fun _ => [])) (fun _ => by kernel_rfl) trivial ?_
  refine Cfg.reg rfl [2] [] (Γ' := [(2, [], .bool true)]) (nd := (fun _ => [])) (fun _ => by kernel_rfl) trivial ?_
  refine Cfg.ret rfl (rs := [.tmp 2]) rfl [.bool true] ⟨by kernel_rfl, trivial⟩ (fun w1 hp => ?_)
  exact ⟨rfl, hp.ext⟩

end Go.Proofs.Ytnoipbbcpiaemaa
