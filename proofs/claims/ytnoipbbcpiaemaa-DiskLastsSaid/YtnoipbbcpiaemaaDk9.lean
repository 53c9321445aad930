/- the document's disk: Write, Barrier. -/
import Derived.Test.YtnoipbbcpiaemaaDk8
namespace Go.Proofs.Ytnoipbbcpiaemaa
open K
set_option linter.unusedVariables false

theorem RG.st {Q : RK} (h : RG Q) : RG (stF Q).2 := by
  have h1 := h.f
  obtain ⟨a, b, c⟩ := stF_same Q
  refine ⟨by rw [a]; exact h.ws, by rw [b]; exact h.wl, by rw [b]; exact h.n, by rw [a, b]; exact h.sl, by rw [c, b]; exact h.tl, ?_⟩
  unfold stF
  split
  · exact h.f
  · show -1 ≤ (if Q.fuse > 0 then Q.fuse - 1 else Q.fuse) ∧ (if Q.fuse > 0 then Q.fuse - 1 else Q.fuse) ≤ _
    split <;> omega
theorem RG.write {Q : RK} (h : RG Q) (q : Int) {b : List UInt8} (hb : b.length = 512) : RG (rWriteF Q q b).2 := by
  obtain ⟨a, b2, c⟩ := stF_same Q
  have hs := h.st
  unfold rWriteF
  split
  · exact h
  · split
    · exact ⟨h.ws.set hb _, hs.wl, hs.n, by show (Q.shown.set _ _).length = _; rw [List.length_set, b2]; exact h.sl, by show (Q.waits.set _ _).length = _; rw [List.length_set, b2]; exact h.tl, hs.f⟩
    · exact hs
theorem RG.bar {Q : RK} (h : RG Q) : RG (rBarF Q).2 := by
  have hs := h.st
  unfold rBarF
  split
  · exact h
  · split
    · exact ⟨hs.ws, h.ws, by show Q.shown.length ≤ _; rw [h.sl]; exact h.n, by show (stF Q).2.shown.length = Q.shown.length; rw [(stF_same Q).1], by show (List.replicate _ _).length = Q.shown.length; rw [List.length_replicate, h.sl]; exact h.tl, hs.f⟩
    · exact hs
theorem crl_ok (kept : List Bool) : ∀ (is : List Int) (k : Nat) {s l : List (List UInt8)} {ws : List Bool}, W5 s → W5 l → W5 (crl kept k is s l ws).1 ∧ W5 (crl kept k is s l ws).2.1 ∧ (crl kept k is s l ws).1.length = s.length ∧ (crl kept k is s l ws).2.1.length = l.length ∧ (crl kept k is s l ws).2.2.length = ws.length
  | [], _, _, _, _, h1, h2 => ⟨h1, h2, rfl, rfl, rfl⟩
  | i :: is, k, s, l, ws, h1, h2 => by
    have h3 : W5 (if kept.getD k false = true then l.set i.toNat (s.getD i.toNat zb) else l) := by
      split
      · exact h2.set (h1.at' _) _
      · exact h2
    have h4 : (if kept.getD k false = true then l.set i.toNat (s.getD i.toNat zb) else l).length = l.length := by split <;> simp
    obtain ⟨a, b, c, d, e⟩ := crl_ok kept is (k + 1) (ws := ws.set i.toNat false) (h1.set (h3.at' i.toNat) i.toNat) h3
    rw [crl]
    exact ⟨a, b, by rw [c, List.length_set], by rw [d, h4], by rw [e, List.length_set]⟩
theorem RG.crash {Q : RK} (h : RG Q) (kept : List Bool) : RG (rCrashF kept Q) := by
  obtain ⟨a, b, c, d, e⟩ := crl_ok kept (lisF Q.waits Q.waits.length) 0 (ws := Q.waits) h.ws h.wl
  exact ⟨a, b, by show (crl _ _ _ _ _ _).2.1.length ≤ _; rw [d]; exact h.n, by show (crl _ _ _ _ _ _).1.length = (crl _ _ _ _ _ _).2.1.length; rw [c, d]; exact h.sl, by show (crl _ _ _ _ _ _).2.2.length = (crl _ _ _ _ _ _).2.1.length; rw [e, d]; exact h.tl, ⟨by show (-1 : Int) ≤ -1; decide, by show (-1 : Int) ≤ 9223372036854775807; decide⟩⟩
def barW (n k : Nat) (ws : List Bool) : List Bool := List.replicate k false ++ ws.drop k
theorem barW_len {n k : Nat} {ws : List Bool} (h : k ≤ ws.length) : (barW n k ws).length = ws.length := by simp [barW]; omega
theorem barW_set {n k : Nat} {ws : List Bool} (h : k < ws.length) : (barW n k ws).set k false = barW n (k + 1) ws := by
  unfold barW
  rw [List.set_append_right _ _ (by simp), List.length_replicate, Nat.sub_self, List.drop_eq_getElem_cons h, List.set_cons_zero, List.replicate_succ', List.append_assoc]; rfl
def barL (k : Nat) (s l : List (List UInt8)) : List (List UInt8) := s.take k ++ l.drop k
theorem barL_w5 {k : Nat} {s l : List (List UInt8)} (h1 : W5 s) (h2 : W5 l) : W5 (barL k s l) := fun x hx => by
  rcases List.mem_append.1 hx with hx | hx
  · exact h1 x (List.mem_of_mem_take hx)
  · exact h2 x (List.mem_of_mem_drop hx)
theorem barL_len {k : Nat} {s l : List (List UInt8)} (h1 : s.length = l.length) (h : k ≤ l.length) : (barL k s l).length = l.length := by simp [barL]; omega
theorem barL_set {k : Nat} {s l : List (List UInt8)} (h1 : s.length = l.length) (h : k < l.length) : (barL k s l).set k (s.getD k zb) = barL (k + 1) s l := by
  unfold barL
  have hk : (s.take k).length = k := by rw [List.length_take]; omega
  rw [List.set_append_right _ _ (by omega), hk, Nat.sub_self, List.drop_eq_getElem_cons h, List.set_cons_zero, List.take_add_one, List.getD_eq_getElem?_getD, List.getElem?_eq_getElem (by omega), List.append_assoc]; rfl

set_option maxRecDepth 100000 in
theorem rWrite (m : RM) (Q : RK) (q : Int) (b : List UInt8) (w : World) (hg : RG Q) (hA : Has w (rO Q m)) (hd : ((rO Q m).map (·.1)).Nodup) (hbl : b.length = 512) (hs : 0 ≤ Q.done ∧ Q.done ≤ 4611686018427387904) :
    Calls Try.prog 33 #[.pointer (some ⟨m.r, 0, none⟩), .int .i64 q, .agg (bv b)] w fun e w' => e = .returned (.int .i64 (rWriteF Q q b).1) ∧ ∃ R1, HP w [m.r, m.sb, m.lb, m.wb] R1 (rO (rWriteF Q q b).2 m) w' := by
  have hn := hg.n
  have hsl := hg.sl
  have htl := hg.tl
  have hf := hg.f
  obtain ⟨e1, e2, e3⟩ := stF_same Q
  have hgs := hg.st
  have hrc := rReadE_cases Q q
  refine enter (vs := [.pointer (some ⟨m.r, 0, none⟩), .int .i64 q, .agg (bv b)]) [m.r, m.sb, m.lb, m.wb] [] [(m.r, .cells #[.slice (some ⟨m.sb, 0, none⟩) Q.shown.length Q.shown.length, .slice (some ⟨m.lb, 0, none⟩) Q.last.length Q.last.length, .slice (some ⟨m.wb, 0, none⟩) Q.waits.length Q.waits.length, .int .i64 Q.done, .int .i64 Q.fuse, .bool Q.down] 51 (0, 0)), (m.sb, .cells ((rows Q.shown).toArray) 33 (0, 0)), (m.lb, .cells ((rows Q.last).toArray) 33 (0, 0)), (m.wb, .cells ((rb Q.waits).toArray) 4 (0, 0))] Try.func33 rfl (by kernel_rfl) (HP.ofL hA hd (fun e he => by cases he) (fun e he => by cases he)) ?_
  refine Cfg.begL rfl ?_
  refine CfgL.eff (o := _) rfl (by kernel_rfl) (by kernel_rfl) (Eff.box (v := .agg (bv b)) rfl (by kernel_rfl)) ?_
  rintro bx ⟨hbx, nbx⟩
  refine CfgL.pure 1 [] (some [0, 1, 5]) (Γ' := [(5, [], .pointer (some ⟨bx, 0, none⟩)), (0, [], .pointer (some ⟨m.r, 0, none⟩)), (1, [], .int .i64 q)]) (nd := (fun _ => [])) (by kernel_rfl) (fun _ => by kernel_rfl) trivial ?_
  refine CfgL.done rfl ?_
  refine Cfg.begL rfl ?_
  refine CfgL.pure 2 [] none (Γ' := [(11, [], .int .i64 q), (10, [], .pointer (some ⟨m.r, 0, none⟩)), (5, [], .pointer (some ⟨bx, 0, none⟩)), (0, [], .pointer (some ⟨m.r, 0, none⟩)), (1, [], .int .i64 q)]) (nd := (fun _ => [])) (by kernel_rfl) (fun _ => by kernel_rfl) trivial ?_
  refine CfgL.eff (o := _) rfl (by kernel_rfl) (by kernel_rfl) (Eff.callA (vs := [.pointer (some ⟨m.r, 0, none⟩), .int .i64 q]) (.tuple #[.agg (bv (rReadB Q q)), .int .i64 (rReadE Q q)]) rfl Try.func31 rfl rfl (by kernel_rfl) (fun w1 h => rRead m Q q w1 hg (h.has (fun e he => List.mem_cons_of_mem _ he)))) ?_
  rintro ⟨⟩ -
  refine CfgL.pure 3 [] none (Γ' := [(14, [], .int .i64 (rReadE Q q)), (13, [], .agg (bv (rReadB Q q))), (9, [], .tuple #[.agg (bv (rReadB Q q)), .int .i64 (rReadE Q q)]), (12, [], .tuple #[.agg (bv (rReadB Q q)), .int .i64 (rReadE Q q)]), (11, [], .int .i64 q), (10, [], .pointer (some ⟨m.r, 0, none⟩)), (5, [], .pointer (some ⟨bx, 0, none⟩)), (0, [], .pointer (some ⟨m.r, 0, none⟩)), (1, [], .int .i64 q)]) (nd := (fun _ => [])) (by kernel_rfl) (fun _ => by kernel_rfl) trivial ?_
  refine CfgL.eff (o := _) rfl (by kernel_rfl) (by kernel_rfl) (Eff.alloc (z := (.agg (bv (List.replicate 512 0)))) rfl (by kernel_rfl)) ?_
  rintro bt ⟨hbt, nbt⟩
  refine CfgL.eff (o := _) rfl (by kernel_rfl) (by kernel_rfl) (Eff.storeN (b := bt) (off := 0) (vs := (bv (rReadB Q q))) (n := 512) rfl (by kernel_rfl) (by kernel_rfl) (by kernel_rfl) ((bv_size _).trans (rReadB_len hg _)) (all_bv _) 0 (cs := (bv (List.replicate 512 0))) (e := 33) (by kernel_rfl) (by rw [zsz512]; omega)) ?_
  rintro ⟨⟩ -
  refine CfgL.setO (O' := [(bt, .cells (bv (rReadB Q q)) 33 (0, 0)), (bx, .cells (bv b) 33 (0, 0)), (m.r, .cells #[.slice (some ⟨m.sb, 0, none⟩) Q.shown.length Q.shown.length, .slice (some ⟨m.lb, 0, none⟩) Q.last.length Q.last.length, .slice (some ⟨m.wb, 0, none⟩) Q.waits.length Q.waits.length, .int .i64 Q.done, .int .i64 Q.fuse, .bool Q.down] 51 (0, 0)), (m.sb, .cells ((rows Q.shown).toArray) 33 (0, 0)), (m.lb, .cells ((rows Q.last).toArray) 33 (0, 0)), (m.wb, .cells ((rb Q.waits).toArray) 4 (0, 0))]) (congrArg (fun (xq : Array Value) => ([(bt, .cells xq 33 (0, 0)), (bx, .cells (bv b) 33 (0, 0)), (m.r, .cells #[.slice (some ⟨m.sb, 0, none⟩) Q.shown.length Q.shown.length, .slice (some ⟨m.lb, 0, none⟩) Q.last.length Q.last.length, .slice (some ⟨m.wb, 0, none⟩) Q.waits.length Q.waits.length, .int .i64 Q.done, .int .i64 Q.fuse, .bool Q.down] 51 (0, 0)), (m.sb, .cells ((rows Q.shown).toArray) 33 (0, 0)), (m.lb, .cells ((rows Q.last).toArray) 33 (0, 0)), (m.wb, .cells ((rb Q.waits).toArray) 4 (0, 0))] : List (Nat × Obj))) (spl_all (((bv_size _).trans (rReadB_len hg _)).trans zsz512.symm))) ?_
  refine CfgL.pure 1 [] (some [0, 1, 5, 8]) (Γ' := [(8, [], .int .i64 (rReadE Q q)), (5, [], .pointer (some ⟨bx, 0, none⟩)), (0, [], .pointer (some ⟨m.r, 0, none⟩)), (1, [], .int .i64 q)]) (nd := (fun _ => [])) (by kernel_rfl) (fun _ => by kernel_rfl) trivial ?_
  refine CfgL.done rfl ?_
  refine Cfg.reg rfl [0, 1, 5, 8, 16] [] (Γ' := [(16, [], .bool ((rReadE Q q) != (0 : Int))), (8, [], .int .i64 (rReadE Q q)), (5, [], .pointer (some ⟨bx, 0, none⟩)), (0, [], .pointer (some ⟨m.r, 0, none⟩)), (1, [], .int .i64 q)]) (nd := (fun _ => [])) (fun _ => by kernel_rfl) trivial ?_
  refine Cfg.cond rfl (b := ((rReadE Q q) != (0 : Int))) (by kernel_rfl) (fun c1r => ?_) (fun c1r => ?_)
  · have c1 : ((rReadE Q q) ≠ (0 : Int)) := (bne_iff_ne.1 c1r)
    refine Cfg.reg rfl [6] [] (Γ' := [(6, [], .int .i64 (rReadE Q q))]) (nd := (fun _ => [])) (fun _ => by kernel_rfl) trivial ?_
    refine Cfg.ret rfl (rs := [.tmp 6]) rfl [.int .i64 (rReadE Q q)] ⟨by kernel_rfl, trivial⟩ (fun w1 hp => ?_)
    have hx : rWriteF Q q b = (rReadE Q q, Q) := if_pos c1
    rw [hx]
    have h9 := hp.sub (List.sublist_append_right [(bt, Obj.cells (bv (rReadB Q q)) 33 (0, 0)), (bx, Obj.cells (bv b) 33 (0, 0))] _)
    exact ⟨rfl, _, h9⟩
  · have c1 : ((rReadE Q q) = (0 : Int)) := (bne_eq_false_iff_eq.1 c1r)
    refine Cfg.begL rfl ?_
    refine CfgL.pure 1 [] none (Γ' := [(18, [], .pointer (some ⟨m.r, 0, none⟩)), (16, [], .bool ((rReadE Q q) != (0 : Int))), (8, [], .int .i64 (rReadE Q q)), (5, [], .pointer (some ⟨bx, 0, none⟩)), (0, [], .pointer (some ⟨m.r, 0, none⟩)), (1, [], .int .i64 q)]) (nd := (fun _ => [])) (by kernel_rfl) (fun _ => by kernel_rfl) trivial ?_
    refine CfgL.eff (o := _) rfl (by kernel_rfl) (by kernel_rfl) (Eff.callM (vs := [.pointer (some ⟨m.r, 0, none⟩)]) (.bool (stF Q).1) 2 (.cells (rC (stF Q).2 m) 51 (0, 0)) rfl Try.func38 rfl rfl (by kernel_rfl) rfl (fun w1 h => rStep m Q w1 hf hs (h.own (m.r, _) (List.mem_of_getElem? (i := 2) rfl)))) ?_
    rintro ⟨⟩ -
    refine CfgL.setO (O' := [(bt, .cells (bv (rReadB Q q)) 33 (0, 0)), (bx, .cells (bv b) 33 (0, 0)), (m.r, .cells #[.slice (some ⟨m.sb, 0, none⟩) Q.shown.length Q.shown.length, .slice (some ⟨m.lb, 0, none⟩) Q.last.length Q.last.length, .slice (some ⟨m.wb, 0, none⟩) Q.waits.length Q.waits.length, .int .i64 ((stF Q).2.done), .int .i64 ((stF Q).2.fuse), .bool (stF Q).2.down] 51 (0, 0)), (m.sb, .cells ((rows Q.shown).toArray) 33 (0, 0)), (m.lb, .cells ((rows Q.last).toArray) 33 (0, 0)), (m.wb, .cells ((rb Q.waits).toArray) 4 (0, 0))]) (by show List.set _ 2 (m.r, Obj.cells #[.slice (some ⟨m.sb, 0, none⟩) (stF Q).2.shown.length (stF Q).2.shown.length, .slice (some ⟨m.lb, 0, none⟩) (stF Q).2.last.length (stF Q).2.last.length, .slice (some ⟨m.wb, 0, none⟩) (stF Q).2.waits.length (stF Q).2.waits.length, .int .i64 (stF Q).2.done, .int .i64 (stF Q).2.fuse, .bool (stF Q).2.down] 51 (0, 0)) = _; rw [e1, e2, e3]; rfl) ?_
    refine CfgL.pure 1 [] (some [0, 1, 5, 20]) (Γ' := [(20, [], .bool (!(stF Q).1)), (5, [], .pointer (some ⟨bx, 0, none⟩)), (0, [], .pointer (some ⟨m.r, 0, none⟩)), (1, [], .int .i64 q)]) (nd := (fun _ => [])) (by kernel_rfl) (fun _ => by kernel_rfl) trivial ?_
    refine CfgL.done rfl ?_
    refine Cfg.cond rfl (b := (!(stF Q).1)) (by kernel_rfl) (fun c2r => ?_) (fun c2r => ?_)
    · have c2 : ((stF Q).1 = false) := (notT c2r)
      refine Cfg.reg rfl [6] [] (Γ' := [(6, [], .int .i64 13)]) (nd := (fun _ => [])) (fun _ => by kernel_rfl) trivial ?_
      refine Cfg.ret rfl (rs := [.tmp 6]) rfl [.int .i64 13] ⟨by kernel_rfl, trivial⟩ (fun w1 hp => ?_)
      have hx : rWriteF Q q b = (13, (stF Q).2) := by unfold rWriteF; rw [if_neg (by simp [c1]), if_neg (by simp [c2])]
      rw [hx]
      have h9 := hp.sub (List.sublist_append_right [(bt, Obj.cells (bv (rReadB Q q)) 33 (0, 0)), (bx, Obj.cells (bv b) 33 (0, 0))] _)
      refine ⟨rfl, [], ?_⟩
      unfold rO rC
      rw [e1, e2, e3]
      exact h9
    · have c2 : ((stF Q).1 = true) := (notF c2r)
      refine Cfg.begA rfl (by kernel_rfl) [(bt, .cells (bv (rReadB Q q)) 33 (0, 0)), (bx, .cells (bv b) 33 (0, 0)), (m.r, .cells #[.slice (some ⟨m.sb, 0, none⟩) Q.shown.length Q.shown.length, .slice (some ⟨m.lb, 0, none⟩) Q.last.length Q.last.length, .slice (some ⟨m.wb, 0, none⟩) Q.waits.length Q.waits.length, .int .i64 ((stF Q).2.done), .int .i64 ((stF Q).2.fuse), .bool (stF Q).2.down] 51 (0, 0)), (m.lb, .cells ((rows Q.last).toArray) 33 (0, 0)), (m.wb, .cells ((rb Q.waits).toArray) 4 (0, 0))] ?_
      refine CfgA.pure [0, 1, 2, 3, 4, 5, 6] [(0, false, none), (0, false, none), (0, false, none), (0, false, some (.slice (some ⟨m.sb, 0, none⟩) Q.shown.length Q.shown.length)), (0, false, none), (0, false, some (.agg (bv b)))] none (l' := #[true, true, true, true, true, true, true, false]) (by kernel_rfl) (by kernel_rfl) (.cons_cons _ (.cons_cons _ (.cons_cons _ (.cons _ (.cons_cons _ (.cons_cons _ .slnil)))))) 1 rfl (Γ' := [(27, [], .pointer (some ⟨m.sb, ((q).toNat * 512), none⟩)), (26, [], .agg (bv b)), (25, [], .int .i64 q), (24, [], .slice (some ⟨m.sb, 0, none⟩) Q.shown.length Q.shown.length), (23, [], .pointer (some ⟨m.r, 0, none⟩)), (22, [], .pointer (some ⟨m.r, 0, none⟩)), (21, [], .pointer (some ⟨m.r, 0, none⟩)), (20, [], .bool (!(stF Q).1)), (5, [], .pointer (some ⟨bx, 0, none⟩)), (0, [], .pointer (some ⟨m.r, 0, none⟩)), (1, [], .int .i64 q)]) (nd := (fun S => [(∀ w1, S w1 → w1.cell? ⟨m.r, 0, none⟩ = some (.slice (some ⟨m.sb, 0, none⟩) Q.shown.length Q.shown.length)), (∀ w1, S w1 → (loadVar 33 ⟨bx, 0, none⟩).run Try.prog w1 = .ok (.agg (bv b)) w1), (0 ≤ q ∧ q < (Q.shown.length : Int))])) (fun _ => by kernel_rfl) ⟨(fun w1 h => h.ocell 2 rfl rfl), (fun w1 h => load_row (h.own (bx, _) (List.mem_of_getElem? (i := 1) rfl)) Try.underlying33 rfl (by kernel_rfl) ((bv_size _).trans hbl)), (by omega), trivial⟩ ?_
      refine CfgA.eff 7 (o := _) rfl (by kernel_rfl) (fuel' := 0) rfl (by kernel_rfl) (by kernel_rfl) (Eff.storeN (b := m.sb) (off := ((q).toNat * 512)) (vs := (bv b)) (n := 512) rfl (by kernel_rfl) (by kernel_rfl) (by kernel_rfl) ((bv_size _).trans hbl) (all_bv _) 3 (cs := (rows Q.shown).toArray) (e := 33) (by kernel_rfl) (by rw [List.size_toArray, rows_len hg.ws]; omega)) (fun _ _ => (.cons_cons _ (.cons_cons _ (.cons_cons _ (.cons _ (.cons_cons _ (.cons_cons _ .slnil))))))) ?_
      rintro ⟨⟩ -
      refine CfgA.setO (O' := [(bt, .cells (bv (rReadB Q q)) 33 (0, 0)), (bx, .cells (bv b) 33 (0, 0)), (m.r, .cells #[.slice (some ⟨m.sb, 0, none⟩) Q.shown.length Q.shown.length, .slice (some ⟨m.lb, 0, none⟩) Q.last.length Q.last.length, .slice (some ⟨m.wb, 0, none⟩) Q.waits.length Q.waits.length, .int .i64 ((stF Q).2.done), .int .i64 ((stF Q).2.fuse), .bool (stF Q).2.down] 51 (0, 0)), (m.sb, .cells ((rows (Q.shown.set q.toNat b)).toArray) 33 (0, 0)), (m.lb, .cells ((rows Q.last).toArray) 33 (0, 0)), (m.wb, .cells ((rb Q.waits).toArray) 4 (0, 0))]) (congrArg (fun (xq : Array Value) => ([(bt, .cells (bv (rReadB Q q)) 33 (0, 0)), (bx, .cells (bv b) 33 (0, 0)), (m.r, .cells #[.slice (some ⟨m.sb, 0, none⟩) Q.shown.length Q.shown.length, .slice (some ⟨m.lb, 0, none⟩) Q.last.length Q.last.length, .slice (some ⟨m.wb, 0, none⟩) Q.waits.length Q.waits.length, .int .i64 ((stF Q).2.done), .int .i64 ((stF Q).2.fuse), .bool (stF Q).2.down] 51 (0, 0)), (m.sb, .cells xq 33 (0, 0)), (m.lb, .cells ((rows Q.last).toArray) 33 (0, 0)), (m.wb, .cells ((rb Q.waits).toArray) 4 (0, 0))] : List (Nat × Obj))) (rows_set hg.ws hbl (by omega) rfl)) ?_
      refine CfgA.done (by kernel_rfl) ?_
      refine Conv.cfg (Γ' := [(0, [], .pointer (some ⟨m.r, 0, none⟩)), (1, [], .int .i64 q)]) (Conv.mk (by kernel_rfl)) ?_
      refine Cfg.begL rfl ?_
      refine CfgL.pure 6 [(0, false, none), (0, false, none), (0, false, none), (0, false, some (.slice (some ⟨m.wb, 0, none⟩) Q.waits.length Q.waits.length))] none (Γ' := [(33, [], .pointer (some ⟨m.wb, (q).toNat, none⟩)), (32, [], .int .i64 q), (31, [], .slice (some ⟨m.wb, 0, none⟩) Q.waits.length Q.waits.length), (30, [], .pointer (some ⟨m.r, 2, none⟩)), (29, [], .pointer (some ⟨m.r, 0, none⟩)), (28, [], .pointer (some ⟨m.r, 0, none⟩)), (0, [], .pointer (some ⟨m.r, 0, none⟩)), (1, [], .int .i64 q)]) (nd := (fun S => [(∀ w1, S w1 → w1.cell? ⟨m.r, 2, none⟩ = some (.slice (some ⟨m.wb, 0, none⟩) Q.waits.length Q.waits.length)), (0 ≤ q ∧ q < (Q.waits.length : Int))])) (by kernel_rfl) (fun _ => by kernel_rfl) ⟨(fun w1 h => h.ocell 2 rfl rfl), (by omega), trivial⟩ ?_
      refine CfgL.eff (o := _) rfl (by kernel_rfl) (by kernel_rfl) (Eff.store1 (b := m.wb) (off := (q).toNat) (v := .bool true) rfl (by kernel_rfl) (by kernel_rfl) rfl (by kernel_rfl) 5 (cs := (rb Q.waits).toArray) (e := 4) (by kernel_rfl) (by rw [List.size_toArray, rb_len]; omega)) ?_
      rintro ⟨⟩ -
      refine CfgL.done rfl ?_
      refine Conv.cfg (Γ' := []) (Conv.mk (by kernel_rfl)) ?_
      refine Cfg.reg rfl [6] [] (Γ' := [(6, [], .int .i64 0)]) (nd := (fun _ => [])) (fun _ => by kernel_rfl) trivial ?_
      refine Cfg.ret rfl (rs := [.tmp 6]) rfl [.int .i64 0] ⟨by kernel_rfl, trivial⟩ (fun w1 hp => ?_)
      have hx : rWriteF Q q b = (0, { (stF Q).2 with shown := Q.shown.set q.toNat b, waits := Q.waits.set q.toNat true }) := by unfold rWriteF; rw [if_neg (by simp [c1]), if_pos (by simpa using c2)]
      rw [hx]
      have h9 := hp.sub (List.sublist_append_right [(bt, Obj.cells (bv (rReadB Q q)) 33 (0, 0)), (bx, Obj.cells (bv b) 33 (0, 0))] _)
      rw [rb_set] at h9
      refine ⟨rfl, [], ?_⟩
      unfold rO rC
      simp only [List.length_set]
      rw [e2]
      exact h9

set_option maxRecDepth 100000 in
theorem rBarrier (m : RM) (Q : RK) (w : World) (hg : RG Q) (hA : Has w (rO Q m)) (hd : ((rO Q m).map (·.1)).Nodup) (hs : 0 ≤ Q.done ∧ Q.done ≤ 4611686018427387904) :
    Calls Try.prog 30 #[.pointer (some ⟨m.r, 0, none⟩)] w fun e w' => e = .returned (.int .i64 (rBarF Q).1) ∧ ∃ R1, HP w [m.r, m.sb, m.lb, m.wb] R1 (rO (rBarF Q).2 m) w' := by
  have hn := hg.n
  have hsl := hg.sl
  have htl := hg.tl
  have hf := hg.f
  obtain ⟨e1, e2, e3⟩ := stF_same Q
  have hgs := hg.st
  refine enter (vs := [.pointer (some ⟨m.r, 0, none⟩)]) [m.r, m.sb, m.lb, m.wb] [] [(m.r, .cells #[.slice (some ⟨m.sb, 0, none⟩) Q.shown.length Q.shown.length, .slice (some ⟨m.lb, 0, none⟩) Q.last.length Q.last.length, .slice (some ⟨m.wb, 0, none⟩) Q.waits.length Q.waits.length, .int .i64 Q.done, .int .i64 Q.fuse, .bool Q.down] 51 (0, 0)), (m.sb, .cells ((rows Q.shown).toArray) 33 (0, 0)), (m.lb, .cells ((rows Q.last).toArray) 33 (0, 0)), (m.wb, .cells ((rb Q.waits).toArray) 4 (0, 0))] Try.func30 rfl (by kernel_rfl) (HP.ofL hA hd (fun e he => by cases he) (fun e he => by cases he)) ?_
  refine Cfg.reg rfl [0] [] (Γ' := [(0, [], .pointer (some ⟨m.r, 0, none⟩))]) (nd := (fun _ => [])) (fun _ => by kernel_rfl) trivial ?_
  refine Cfg.begL rfl ?_
  refine CfgL.pure 5 [(0, false, none), (0, false, none), (0, false, none), (0, false, some (.bool Q.down))] none (Γ' := [(8, [], .bool Q.down), (7, [], .bool Q.down), (6, [], .pointer (some ⟨m.r, 5, none⟩)), (5, [], .pointer (some ⟨m.r, 0, none⟩)), (4, [], .pointer (some ⟨m.r, 0, none⟩)), (0, [], .pointer (some ⟨m.r, 0, none⟩))]) (nd := (fun S => [(∀ w1, S w1 → w1.cell? ⟨m.r, 5, none⟩ = some (.bool Q.down))])) (by kernel_rfl) (fun _ => by kernel_rfl) ⟨(fun w1 h => h.ocell 0 rfl rfl), trivial⟩ ?_
  by_cases c1 : Q.down = true
  · have c1k : Q.down = true := c1
    have c1q : (Q.down = true) := c1k
    refine CfgL.known 8 (b := Q.down) (by kernel_rfl) true c1k ?_
    refine CfgL.pure 4 [(2, false, none), (2, false, none), (2, false, none)] (some [0, 12]) (Γ' := [(12, [], .bool true), (0, [], .pointer (some ⟨m.r, 0, none⟩))]) (nd := (fun _ => [((.bool true : Value) ≠ .bool false), ((.bool true : Value) ≠ .bool false), ((.bool true : Value) ≠ .bool false)])) (by kernel_rfl) (fun _ => by kernel_rfl) ⟨(by simp), (by simp), (by simp), trivial⟩ ?_
    refine CfgL.done rfl ?_
    refine Cfg.condT rfl (b := true) (by kernel_rfl) rfl ?_
    refine Cfg.reg rfl [2] [] (Γ' := [(2, [], .int .i64 13)]) (nd := (fun _ => [])) (fun _ => by kernel_rfl) trivial ?_
    refine Cfg.ret rfl (rs := [.tmp 2]) rfl [.int .i64 13] ⟨by kernel_rfl, trivial⟩ (fun w1 hp => ?_)
    have hx : rBarF Q = (13, Q) := if_pos (by first | exact c1k | exact c1)
    rw [hx]
    exact ⟨rfl, _, hp⟩
  · have c1k : Q.down = false := (by simpa using c1)
    have c1q : (Q.down = false) := c1k
    refine CfgL.known 8 (b := Q.down) (by kernel_rfl) false c1k ?_
    refine CfgL.pure 1 [(1, false, none)] none (Γ' := [(9, [], .pointer (some ⟨m.r, 0, none⟩)), (8, [], .bool false), (7, [], .bool Q.down), (6, [], .pointer (some ⟨m.r, 5, none⟩)), (5, [], .pointer (some ⟨m.r, 0, none⟩)), (4, [], .pointer (some ⟨m.r, 0, none⟩)), (0, [], .pointer (some ⟨m.r, 0, none⟩))]) (nd := (fun _ => [((.bool false : Value) = .bool false)])) (by kernel_rfl) (fun _ => by kernel_rfl) ⟨rfl, trivial⟩ ?_
    refine CfgL.eff (o := _) rfl (by kernel_rfl) (by kernel_rfl) (Eff.callM (vs := [.pointer (some ⟨m.r, 0, none⟩)]) (.bool (stF Q).1) 0 (.cells (rC (stF Q).2 m) 51 (0, 0)) rfl Try.func38 rfl rfl (by kernel_rfl) rfl (fun w1 h => rStep m Q w1 hf hs (h.own (m.r, _) (List.mem_of_getElem? (i := 0) rfl)))) ?_
    rintro ⟨⟩ -
    refine CfgL.setO (O' := [(m.r, .cells #[.slice (some ⟨m.sb, 0, none⟩) Q.shown.length Q.shown.length, .slice (some ⟨m.lb, 0, none⟩) Q.last.length Q.last.length, .slice (some ⟨m.wb, 0, none⟩) Q.waits.length Q.waits.length, .int .i64 ((stF Q).2.done), .int .i64 ((stF Q).2.fuse), .bool (stF Q).2.down] 51 (0, 0)), (m.sb, .cells ((rows Q.shown).toArray) 33 (0, 0)), (m.lb, .cells ((rows Q.last).toArray) 33 (0, 0)), (m.wb, .cells ((rb Q.waits).toArray) 4 (0, 0))]) (by show List.set _ 0 (m.r, Obj.cells #[.slice (some ⟨m.sb, 0, none⟩) (stF Q).2.shown.length (stF Q).2.shown.length, .slice (some ⟨m.lb, 0, none⟩) (stF Q).2.last.length (stF Q).2.last.length, .slice (some ⟨m.wb, 0, none⟩) (stF Q).2.waits.length (stF Q).2.waits.length, .int .i64 (stF Q).2.done, .int .i64 (stF Q).2.fuse, .bool (stF Q).2.down] 51 (0, 0)) = _; rw [e1, e2, e3]; rfl) ?_
    refine CfgL.pure 2 [(1, false, none)] (some [0, 12]) (Γ' := [(12, [], .bool (!(stF Q).1)), (0, [], .pointer (some ⟨m.r, 0, none⟩))]) (nd := (fun _ => [((.bool false : Value) = .bool false)])) (by kernel_rfl) (fun _ => by kernel_rfl) ⟨rfl, trivial⟩ ?_
    refine CfgL.done rfl ?_
    refine Cfg.cond rfl (b := (!(stF Q).1)) (by kernel_rfl) (fun c3r => ?_) (fun c3r => ?_)
    · have c3 : ((stF Q).1 = false) := (notT c3r)
      refine Cfg.reg rfl [2] [] (Γ' := [(2, [], .int .i64 13)]) (nd := (fun _ => [])) (fun _ => by kernel_rfl) trivial ?_
      refine Cfg.ret rfl (rs := [.tmp 2]) rfl [.int .i64 13] ⟨by kernel_rfl, trivial⟩ (fun w1 hp => ?_)
      have hx : rBarF Q = (13, (stF Q).2) := by unfold rBarF; rw [if_neg (by simp [c1k]), if_neg (by simp [c3])]
      rw [hx]
      refine ⟨rfl, [], ?_⟩
      unfold rO rC
      rw [e1, e2, e3]
      exact hp
    · have c3 : ((stF Q).1 = true) := (notF c3r)
      refine Cfg.reg rfl [0, 17, 18] [(0, false, none), (0, false, none), (0, false, none), (0, false, some (.slice (some ⟨m.lb, 0, none⟩) Q.last.length Q.last.length))] (Γ' := [(18, [], .int .i64 0), (17, [], .int .i64 (Q.last.length : Int)), (0, [], .pointer (some ⟨m.r, 0, none⟩))]) (nd := (fun S => [(∀ w1, S w1 → w1.cell? ⟨m.r, 1, none⟩ = some (.slice (some ⟨m.lb, 0, none⟩) Q.last.length Q.last.length))])) (fun _ => by kernel_rfl) ⟨(fun w1 h => h.ocell 0 rfl rfl), trivial⟩ ?_
      refine Cfg.loop rfl (ι := Nat) (fun (k : Nat) => [(18, [], .int .i64 (k : Int)), (17, [], .int .i64 (Q.last.length : Int)), (0, [], .pointer (some ⟨m.r, 0, none⟩))]) (fun (k : Nat) => [(m.r, .cells #[.slice (some ⟨m.sb, 0, none⟩) Q.shown.length Q.shown.length, .slice (some ⟨m.lb, 0, none⟩) Q.last.length Q.last.length, .slice (some ⟨m.wb, 0, none⟩) Q.waits.length Q.waits.length, .int .i64 ((stF Q).2.done), .int .i64 ((stF Q).2.fuse), .bool (stF Q).2.down] 51 (0, 0)), (m.sb, .cells ((rows Q.shown).toArray) 33 (0, 0)), (m.lb, .cells ((rows (barL k Q.shown Q.last)).toArray) 33 (0, 0)), (m.wb, .cells ((rb (barW 0 k Q.waits)).toArray) 4 (0, 0))]) (fun (k : Nat) => (k ≤ Q.last.length)) (fun (k : Nat) => Q.last.length - k) 0 ?_ (Conv.mk (by kernel_rfl)) (.cons_cons _ (.cons_cons _ (.cons_cons _ (.cons_cons _ .slnil)))) ?_
      · exact Nat.zero_le _
      · rintro k hk
        refine Cfg.reg rfl [0, 17, 18, 19] [] (Γ' := [(19, [], .bool (decide ((k : Int) < (Q.last.length : Int)))), (18, [], .int .i64 (k : Int)), (17, [], .int .i64 (Q.last.length : Int)), (0, [], .pointer (some ⟨m.r, 0, none⟩))]) (nd := (fun _ => [])) (fun _ => by kernel_rfl) trivial ?_
        refine Cfg.cond rfl (b := (decide ((k : Int) < (Q.last.length : Int)))) (by kernel_rfl) (fun c4r => ?_) (fun c4r => ?_)
        · have c4 : ((k : Int) < (Q.last.length : Int)) := (of_decide_eq_true c4r)
          refine Cfg.reg rfl [0, 3, 17, 18] [] (Γ' := [(3, [], .int .i64 (k : Int)), (18, [], .int .i64 (k : Int)), (17, [], .int .i64 (Q.last.length : Int)), (0, [], .pointer (some ⟨m.r, 0, none⟩))]) (nd := (fun _ => [])) (fun _ => by kernel_rfl) trivial ?_
          refine Cfg.begA rfl (by kernel_rfl) [(m.r, .cells #[.slice (some ⟨m.sb, 0, none⟩) Q.shown.length Q.shown.length, .slice (some ⟨m.lb, 0, none⟩) Q.last.length Q.last.length, .slice (some ⟨m.wb, 0, none⟩) Q.waits.length Q.waits.length, .int .i64 ((stF Q).2.done), .int .i64 ((stF Q).2.fuse), .bool (stF Q).2.down] 51 (0, 0)), (m.sb, .cells ((rows Q.shown).toArray) 33 (0, 0)), (m.wb, .cells ((rb (barW 0 k Q.waits)).toArray) 4 (0, 0))] ?_
          refine CfgA.pure [0, 1, 2, 3, 4, 5, 6, 7, 8, 9, 10, 11, 12] [(0, false, none), (0, false, none), (0, false, none), (0, false, some (.slice (some ⟨m.lb, 0, none⟩) Q.last.length Q.last.length)), (0, false, none), (0, false, none), (0, false, none), (0, false, none), (0, false, some (.slice (some ⟨m.sb, 0, none⟩) Q.shown.length Q.shown.length)), (0, false, none), (0, false, none), (0, false, some (.agg (bv (Q.shown.getD k zb))))] none (l' := #[true, true, true, true, true, true, true, true, true, true, true, true, true, false]) (by kernel_rfl) (by kernel_rfl) (.cons_cons _ (.cons_cons _ (.cons _ (.cons_cons _ .slnil)))) 1 rfl (Γ' := [(33, [], .pointer (some ⟨m.lb, (k * 512), none⟩)), (32, [], .agg (bv (Q.shown.getD k zb))), (31, [], .pointer (some ⟨m.sb, (k * 512), none⟩)), (30, [], .int .i64 (k : Int)), (29, [], .slice (some ⟨m.sb, 0, none⟩) Q.shown.length Q.shown.length), (28, [], .pointer (some ⟨m.r, 0, none⟩)), (27, [], .pointer (some ⟨m.r, 0, none⟩)), (26, [], .pointer (some ⟨m.r, 0, none⟩)), (25, [], .int .i64 (k : Int)), (24, [], .slice (some ⟨m.lb, 0, none⟩) Q.last.length Q.last.length), (23, [], .pointer (some ⟨m.r, 1, none⟩)), (22, [], .pointer (some ⟨m.r, 0, none⟩)), (21, [], .pointer (some ⟨m.r, 0, none⟩)), (3, [], .int .i64 (k : Int)), (18, [], .int .i64 (k : Int)), (17, [], .int .i64 (Q.last.length : Int)), (0, [], .pointer (some ⟨m.r, 0, none⟩))]) (nd := (fun S => [(∀ w1, S w1 → w1.cell? ⟨m.r, 1, none⟩ = some (.slice (some ⟨m.lb, 0, none⟩) Q.last.length Q.last.length)), (∀ w1, S w1 → w1.cell? ⟨m.r, 0, none⟩ = some (.slice (some ⟨m.sb, 0, none⟩) Q.shown.length Q.shown.length)), (0 ≤ (k : Int) ∧ (k : Int) < (Q.shown.length : Int)), (∀ w1, S w1 → (loadVar 33 ⟨m.sb, (k * 512), none⟩).run Try.prog w1 = .ok (.agg (bv (Q.shown.getD k zb))) w1), (0 ≤ (k : Int) ∧ (k : Int) < (Q.last.length : Int))])) (fun _ => by kernel_rfl) ⟨(fun w1 h => h.ocell 0 rfl rfl), (fun w1 h => h.ocell 0 rfl rfl), (by omega), (fun w1 h => load_bytes Try.underlying33 rfl (by kernel_rfl) (hg.ws.at' _) (fun j hj => sect_cell (n := 0) hg.ws (h.own _ (List.mem_of_getElem? (i := 1) rfl)) rfl (by first | omega | (rw [List.length_set]; omega)) j hj)), (by omega), trivial⟩ ?_
          refine CfgA.eff 13 (o := _) rfl (by kernel_rfl) (fuel' := 0) rfl (by kernel_rfl) (by kernel_rfl) (Eff.storeN (b := m.lb) (off := (k * 512)) (vs := (bv (Q.shown.getD k zb))) (n := 512) rfl (by kernel_rfl) (by kernel_rfl) (by kernel_rfl) ((bv_size _).trans (hg.ws.at' _)) (all_bv _) 2 (cs := (rows (barL k Q.shown Q.last)).toArray) (e := 33) (by kernel_rfl) (by rw [List.size_toArray, rows_len (barL_w5 hg.ws hg.wl), barL_len hsl (by omega)]; omega)) (fun _ _ => (.cons_cons _ (.cons_cons _ (.cons _ (.cons_cons _ .slnil))))) ?_
          rintro ⟨⟩ -
          refine CfgA.setO (O' := [(m.r, .cells #[.slice (some ⟨m.sb, 0, none⟩) Q.shown.length Q.shown.length, .slice (some ⟨m.lb, 0, none⟩) Q.last.length Q.last.length, .slice (some ⟨m.wb, 0, none⟩) Q.waits.length Q.waits.length, .int .i64 ((stF Q).2.done), .int .i64 ((stF Q).2.fuse), .bool (stF Q).2.down] 51 (0, 0)), (m.sb, .cells ((rows Q.shown).toArray) 33 (0, 0)), (m.lb, .cells ((rows (barL (k + 1) Q.shown Q.last)).toArray) 33 (0, 0)), (m.wb, .cells ((rb (barW 0 k Q.waits)).toArray) 4 (0, 0))]) (congrArg (fun (xq : Array Value) => ([(m.r, .cells #[.slice (some ⟨m.sb, 0, none⟩) Q.shown.length Q.shown.length, .slice (some ⟨m.lb, 0, none⟩) Q.last.length Q.last.length, .slice (some ⟨m.wb, 0, none⟩) Q.waits.length Q.waits.length, .int .i64 ((stF Q).2.done), .int .i64 ((stF Q).2.fuse), .bool (stF Q).2.down] 51 (0, 0)), (m.sb, .cells ((rows Q.shown).toArray) 33 (0, 0)), (m.lb, .cells xq 33 (0, 0)), (m.wb, .cells ((rb (barW 0 k Q.waits)).toArray) 4 (0, 0))] : List (Nat × Obj))) ((rows_set (barL_w5 hg.ws hg.wl) (hg.ws.at' _) (by rw [barL_len hsl (by omega)]; omega) rfl).trans (by rw [barL_set hsl (by omega)]))) ?_
          refine CfgA.done (by kernel_rfl) ?_
          refine Conv.cfg (Γ' := [(3, [], .int .i64 (k : Int)), (18, [], .int .i64 (k : Int)), (17, [], .int .i64 (Q.last.length : Int)), (0, [], .pointer (some ⟨m.r, 0, none⟩))]) (Conv.mk (by kernel_rfl)) ?_
          refine Cfg.begL rfl ?_
          refine CfgL.pure 6 [(0, false, none), (0, false, none), (0, false, none), (0, false, some (.slice (some ⟨m.wb, 0, none⟩) Q.waits.length Q.waits.length))] none (Γ' := [(39, [], .pointer (some ⟨m.wb, k, none⟩)), (38, [], .int .i64 (k : Int)), (37, [], .slice (some ⟨m.wb, 0, none⟩) Q.waits.length Q.waits.length), (36, [], .pointer (some ⟨m.r, 2, none⟩)), (35, [], .pointer (some ⟨m.r, 0, none⟩)), (34, [], .pointer (some ⟨m.r, 0, none⟩)), (3, [], .int .i64 (k : Int)), (18, [], .int .i64 (k : Int)), (17, [], .int .i64 (Q.last.length : Int)), (0, [], .pointer (some ⟨m.r, 0, none⟩))]) (nd := (fun S => [(∀ w1, S w1 → w1.cell? ⟨m.r, 2, none⟩ = some (.slice (some ⟨m.wb, 0, none⟩) Q.waits.length Q.waits.length)), (0 ≤ (k : Int) ∧ (k : Int) < (Q.waits.length : Int))])) (by kernel_rfl) (fun _ => by kernel_rfl) ⟨(fun w1 h => h.ocell 0 rfl rfl), (by omega), trivial⟩ ?_
          refine CfgL.eff (o := _) rfl (by kernel_rfl) (by kernel_rfl) (Eff.store1 (b := m.wb) (off := k) (v := .bool false) rfl (by kernel_rfl) (by kernel_rfl) rfl (by kernel_rfl) 3 (cs := (rb (barW 0 k Q.waits)).toArray) (e := 4) (by kernel_rfl) (by rw [List.size_toArray, rb_len, barW_len (by omega)]; omega)) ?_
          rintro ⟨⟩ -
          refine CfgL.done rfl ?_
          refine Conv.cfg (Γ' := [(18, [], .int .i64 (k : Int)), (17, [], .int .i64 (Q.last.length : Int)), (0, [], .pointer (some ⟨m.r, 0, none⟩))]) (Conv.mk (by kernel_rfl)) ?_
          refine Cfg.reg rfl [0, 17, 18] [] (Γ' := [(18, [], .int .i64 ((k : Int) + 1)), (17, [], .int .i64 (Q.last.length : Int)), (0, [], .pointer (some ⟨m.r, 0, none⟩))]) (nd := (fun _ => [((-9223372036854775808 : Int) ≤ ((k : Int) + 1) ∧ ((k : Int) + 1) ≤ 9223372036854775807)])) (fun _ => by kernel_rfl) ⟨(by omega), trivial⟩ ?_
          refine Cfg.setO (O' := [(m.r, .cells #[.slice (some ⟨m.sb, 0, none⟩) Q.shown.length Q.shown.length, .slice (some ⟨m.lb, 0, none⟩) Q.last.length Q.last.length, .slice (some ⟨m.wb, 0, none⟩) Q.waits.length Q.waits.length, .int .i64 ((stF Q).2.done), .int .i64 ((stF Q).2.fuse), .bool (stF Q).2.down] 51 (0, 0)), (m.sb, .cells ((rows Q.shown).toArray) 33 (0, 0)), (m.lb, .cells ((rows (barL (k + 1) Q.shown Q.last)).toArray) 33 (0, 0)), (m.wb, .cells ((rb (barW 0 (k + 1) Q.waits)).toArray) 4 (0, 0))]) (congrArg (fun (xq : Array Value) => ([(m.r, .cells #[.slice (some ⟨m.sb, 0, none⟩) Q.shown.length Q.shown.length, .slice (some ⟨m.lb, 0, none⟩) Q.last.length Q.last.length, .slice (some ⟨m.wb, 0, none⟩) Q.waits.length Q.waits.length, .int .i64 ((stF Q).2.done), .int .i64 ((stF Q).2.fuse), .bool (stF Q).2.down] 51 (0, 0)), (m.sb, .cells ((rows Q.shown).toArray) 33 (0, 0)), (m.lb, .cells ((rows (barL (k + 1) Q.shown Q.last)).toArray) 33 (0, 0)), (m.wb, .cells xq 4 (0, 0))] : List (Nat × Obj))) (by rw [rb_set, barW_set (by omega)])) ?_
          refine Cfg.again rfl (k + 1) (by show k + 1 ≤ Q.last.length; omega) (by show Q.last.length - (k + 1) < Q.last.length - k; omega) (Conv.mk (by kernel_rfl)) (.cons_cons _ (.cons_cons _ (.cons_cons _ (.cons_cons _ .slnil))))
        · have c4 : (¬ ((k : Int) < (Q.last.length : Int))) := (of_decide_eq_false c4r)
          refine Cfg.reg rfl [2] [] (Γ' := [(2, [], .int .i64 0)]) (nd := (fun _ => [])) (fun _ => by kernel_rfl) trivial ?_
          refine Cfg.ret rfl (rs := [.tmp 2]) rfl [.int .i64 0] ⟨by kernel_rfl, trivial⟩ (fun w1 hp => ?_)
          have hk2 : k = Q.last.length := by omega
          subst hk2
          have hx : rBarF Q = (0, { (stF Q).2 with last := Q.shown, waits := List.replicate Q.waits.length false }) := by unfold rBarF; rw [if_neg (by simp [c1k]), if_pos (by simpa using c3)]
          rw [hx]
          have h1 : barL Q.last.length Q.shown Q.last = Q.shown := by unfold barL; rw [← hsl, List.take_length, List.drop_eq_nil_of_le (by omega), List.append_nil]
          have h2 : barW 0 Q.last.length Q.waits = List.replicate Q.waits.length false := by unfold barW; rw [← htl, List.drop_length, List.append_nil]
          have h9 := hp.sub (List.Sublist.refl _)
          rw [h1, h2, ← hsl] at h9
          refine ⟨rfl, [], ?_⟩
          unfold rO rC
          simp only [List.length_replicate]
          rw [e1]
          exact h9

end Go.Proofs.Ytnoipbbcpiaemaa
