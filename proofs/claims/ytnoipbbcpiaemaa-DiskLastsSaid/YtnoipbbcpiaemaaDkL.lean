/- disk: the law DiskLasts. -/
import Derived.Test.YtnoipbbcpiaemaaDkO
namespace Go.Proofs.Ytnoipbbcpiaemaa
open K
set_option linter.unusedVariables false

def hb (D : DK) (j : Nat) : Int := (((D.last.getD j zb).getD 0 0).toNat : Int)
def sh (D : DK) (j : Nat) : Int := (((shown D (j : Int)).getD 0 0).toNat : Int)
/-- A disk that has no fuse, of 64 sectors. -/
structure Fu (D : DK) : Prop where
  f : D.fuse = -1
  d : D.down = false
  n : D.last.length = 64
theorem Fu.sp {D : DK} (h : Fu D) : spF D = (true, { D with steps := D.steps + 1 }) := by
  have h1 := h.f
  have h2 := h.d
  unfold spF
  rw [if_neg (by rw [h2]; decide), if_neg (by rw [h1]; decide), if_neg (by rw [h1]; decide)]
theorem Fu.w {D : DK} (h : Fu D) (q : Int) (b : List UInt8) : writeF D q b = if fltF D q = 0 then (0, { D with steps := D.steps + 1, wait := wset D.wait q b }) else (fltF D q, D) := by
  unfold writeF
  rw [h.sp]
  by_cases h0 : fltF D q = 0
  · rw [if_neg (by rw [h0]; decide), if_pos h0]; rfl
  · rw [if_pos h0, if_neg h0]
theorem Fu.write {D : DK} (h : Fu D) (q : Int) (b : List UInt8) : Fu (writeF D q b).2 := by
  rw [h.w]; split
  · exact ⟨h.f, h.d, h.n⟩
  · exact h
theorem Fu.b {D : DK} (h : Fu D) : barF D = (0, settleF (fun _ => true) { D with steps := D.steps + 1 }) := by
  unfold barF; rw [h.sp]; rfl
theorem Fu.bar {D : DK} (h : Fu D) : Fu (barF D).2 := by
  rw [h.b]
  exact ⟨h.f, h.d, by show (setl _ _ _ _ _).length = 64; rw [setl_len]; exact h.n⟩
theorem Fu.wait0 {D : DK} (h : Fu D) : (barF D).2.wait = [] := by rw [h.b]; rfl
theorem sh0 {D : DK} (h : D.wait = []) (j : Nat) : sh D j = hb D j := by
  unfold sh hb shown; rw [h, Int.toNat_natCast]; rfl
theorem wr_no {D : DK} (h : Fu D) {q : Int} {b : List UInt8} (h1 : (writeF D q b).1 ≠ 0) : (writeF D q b).2 = D := by
  rw [h.w] at h1 ⊢
  split at h1
  · exact absurd rfl h1
  · rename_i h0; rw [if_neg h0]
theorem wr_yes {D : DK} (h : Fu D) {q : Int} {b : UInt8} (h1 : (writeF D q (bk1 b)).1 = 0) (j : Nat) : sh (writeF D q (bk1 b)).2 j = if (j : Int) = q then (b.toNat : Int) else sh D j := by
  rw [h.w] at h1 ⊢
  split at h1
  · rename_i h0
    rw [if_pos h0]
    unfold sh shown
    simp only
    rw [wget_set]
    split <;> rfl
  · rename_i h0; exact absurd h1 h0
theorem wr_last (D : DK) (q : Int) (b : List UInt8) : hb (writeF D q b).2 = hb D := by funext j; unfold hb; rw [writeF_last]
theorem wr_len (D : DK) (q : Int) (b : List UInt8) : (writeF D q b).2.wait.length ≤ D.wait.length + 1 := by
  unfold writeF
  split
  · show D.wait.length ≤ _; omega
  · split
    · show (wset (spF D).2.wait q b).length ≤ _
      have := wset_len (spF D).2.wait q b
      rw [spF_wait] at this ⊢; exact this
    · rw [spF_wait]; omega
theorem setl_or (p : Nat → Bool) (W : Wt) (i : Nat) : ∀ (ks : List Int) (k : Nat) (L : List (List UInt8)), (∀ q ∈ ks, 0 ≤ q ∧ q < (L.length : Int)) → (setl p W k ks L).getD i zb = L.getD i zb ∨ ((i : Int) ∈ ks ∧ (setl p W k ks L).getD i zb = (wget W (i : Int)).getD zb)
  | [], _, _, _ => .inl rfl
  | q :: ks, k, L, h => by
    have hq := h q (List.mem_cons_self ..)
    have hl : (if p k = true then L.set q.toNat ((wget W q).getD zb) else L).length = L.length := by split <;> simp
    rw [setl]
    rcases setl_or p W i ks (k + 1) (if p k = true then L.set q.toNat ((wget W q).getD zb) else L) (fun x hx => by rw [hl]; exact h x (List.mem_cons_of_mem _ hx)) with h1 | ⟨h1, h2⟩
    · rw [h1]
      split
      · rw [getD_set _ _ _ _ (by omega)]
        by_cases h3 : i = q.toNat
        · refine .inr ⟨by rw [h3, Int.toNat_of_nonneg hq.1]; exact List.mem_cons_self .., ?_⟩
          rw [if_pos h3, h3, Int.toNat_of_nonneg hq.1]
        · rw [if_neg h3]; exact .inl rfl
      · exact .inl rfl
    · exact .inr ⟨List.mem_cons_of_mem _ h1, h2⟩
theorem crash_or {D : DK} (h : DG D) (kept : List Bool) (j : Nat) : hb (crashF kept D) j = hb D j ∨ hb (crashF kept D) j = sh D j := by
  unfold hb sh
  show ((((setl _ D.wait 0 (keysW D.wait) D.last).getD j zb).getD 0 0).toNat : Int) = _ ∨ ((((setl _ D.wait 0 (keysW D.wait) D.last).getD j zb).getD 0 0).toNat : Int) = _
  rcases setl_or (fun i => kept.getD i false) D.wait j (keysW D.wait) 0 D.last (keys_rng h) with h1 | ⟨h1, h2⟩
  · rw [h1]; exact .inl rfl
  · refine .inr ?_
    rw [h2]
    have := (wget_mem_iff D.wait (j : Int)).2 ((keys_mem _ _).1 h1)
    unfold shown
    cases hg : wget D.wait (j : Int) with
    | none => rw [hg] at this; cases this
    | some b => rfl
theorem rd_crash {D : DK} (kept : List Bool) {j : Nat} (hj : j < D.last.length) : readF (crashF kept D) (j : Int) = (crashF kept D).last.getD j zb ∧ fltF (crashF kept D) (j : Int) = 0 := by
  have hl := crashF_len kept D
  have h0 : fltF (crashF kept D) (j : Int) = 0 := by
    unfold fltF
    rw [if_neg (by show ¬ (false = true); decide), if_pos (by rw [hl]; omega)]
  refine ⟨(if_pos h0).trans ?_, h0⟩
  show (none : Option (List UInt8)).getD ((crashF kept D).last.getD ((j : Int)).toNat zb) = _
  rw [Int.toNat_natCast]; rfl
theorem newD_fu : Fu (newD 64) := ⟨rfl, rfl, List.length_replicate⟩

set_option maxRecDepth 100000 in
theorem diskLastsWalk (la lb lk : Option Addr) (ca cb ck : Nat) (sc sd : List AK) (kept : List Bool) (Ra Rb Rk : List (Nat × Obj)) (w : World) (hI : InS Ra la (sc.length * 4) (fun j => (sc.flatMap ac).getD j undef)) (hJ : InS Rb lb (sd.length * 4) (fun j => (sd.flatMap ac).getD j undef)) (hK : InS Rk lk kept.length (fun j => .bool (kept.getD j false))) (hA : ∀ a ∈ sc, AKok w a) (hB : ∀ a ∈ sd, AKok w a) (hRa : Has w Ra) (hRb : Has w Rb) (hRk : Has w Rk) (hsc : sc.length ≤ maxLen) (hsd : sd.length ≤ maxLen) (hkl : kept.length ≤ maxLen) (hs2 : sc.length + sd.length ≤ 9223372036854775807) :
    Calls Try.prog 3 #[.slice la sc.length ca, .slice lb sd.length cb, .slice lk kept.length ck] w fun e w' => e = .returned (.bool true) ∧ Ext [] w w' := by
  have hml : maxLen = 9223372036854775807 := rfl
  rw [hml] at hsc hsd
  refine enter (vs := [.slice la sc.length ca, .slice lb sd.length cb, .slice lk kept.length ck]) [] (Ra ++ (Rb ++ Rk)) [] Try.func3 rfl (by kernel_rfl) (HP.ofHas (has_app hRa (has_app hRb hRk))) ?_
  refine Cfg.reg rfl [0, 1, 2] [] (Γ' := [(0, [], .slice la sc.length ca), (1, [], .slice lb sd.length cb), (2, [], .slice lk kept.length ck)]) (nd := (fun _ => [])) (fun _ => by kernel_rfl) trivial ?_
  refine Cfg.begL rfl ?_
  refine CfgL.eff (o := _) rfl (by kernel_rfl) (by kernel_rfl) (Eff.callA (vs := []) (.bool true) rfl Try.func6 rfl rfl (by kernel_rfl) (fun w1 _ => dAwake w1)) ?_
  rintro ⟨⟩ -
  refine CfgL.pure 1 [] (some [0, 1, 2, 21]) (Γ' := [(21, [], .bool false), (0, [], .slice la sc.length ca), (1, [], .slice lb sd.length cb), (2, [], .slice lk kept.length ck)]) (nd := (fun _ => [])) (by kernel_rfl) (fun _ => by kernel_rfl) trivial ?_
  refine CfgL.done rfl ?_
  refine Cfg.condF rfl (b := false) (by kernel_rfl) rfl ?_
  refine Cfg.reg rfl [0, 1, 2, 32] [] (Γ' := [(32, [], .bool ((decide (((sc.length : Int) + (sd.length : Int)) > (60 : Int))) || (decide ((kept.length : Int) > (100 : Int))))), (0, [], .slice la sc.length ca), (1, [], .slice lb sd.length cb), (2, [], .slice lk kept.length ck)]) (nd := (fun _ => [((-9223372036854775808 : Int) ≤ ((sc.length : Int) + (sd.length : Int)) ∧ ((sc.length : Int) + (sd.length : Int)) ≤ 9223372036854775807)])) (fun _ => by kernel_rfl) ⟨(by omega), trivial⟩ ?_
  refine Cfg.cond rfl (b := ((decide (((sc.length : Int) + (sd.length : Int)) > (60 : Int))) || (decide ((kept.length : Int) > (100 : Int))))) (by kernel_rfl) (fun c2r => ?_) (fun c2r => ?_)
  · have c2 : ((((sc.length : Int) + (sd.length : Int)) > (60 : Int)) ∨ ((kept.length : Int) > (100 : Int))) := ((orT c2r).elim (fun h => Or.inl (of_decide_eq_true h)) (fun h => Or.inr (of_decide_eq_true h)))
    refine Cfg.reg rfl [6] [] (Γ' := [(6, [], .bool true)]) (nd := (fun _ => [])) (fun _ => by kernel_rfl) trivial ?_
    refine Cfg.ret rfl (rs := [.tmp 6]) rfl [.bool true] ⟨by kernel_rfl, trivial⟩ (fun w1 hp => ?_)
    exact ⟨rfl, hp.ext⟩
  · have c2 : ((¬ (((sc.length : Int) + (sd.length : Int)) > (60 : Int))) ∧ (¬ ((kept.length : Int) > (100 : Int)))) := ⟨(of_decide_eq_false (orF1 c2r)), (of_decide_eq_false (orF2 c2r))⟩
    refine Cfg.begL rfl ?_
    refine CfgL.eff (o := _) rfl (by kernel_rfl) (by kernel_rfl) (Eff.callH (vs := [.int .i64 64]) (fun y : DM × MX => .tuple #[.pointer (some ⟨y.1.d, 0, none⟩), .int .i64 0]) [] (fun y => dO (newD 64) y.1 y.2) (fun y => MapOk y.2.1 y.2.2 []) [] [] rfl rfl Try.func7 rfl rfl (by kernel_rfl) (fun w1 h _ _ => dNew 64 w1 (by omega))) ?_
    rintro ⟨m, x⟩ hmo
    refine CfgL.pure 5 [] (some [0, 1, 2, 7]) (Γ' := [(7, [], .pointer (some ⟨m.d, 0, none⟩)), (0, [], .slice la sc.length ca), (1, [], .slice lb sd.length cb), (2, [], .slice lk kept.length ck)]) (nd := (fun _ => [])) (by kernel_rfl) (fun _ => by kernel_rfl) trivial ?_
    refine CfgL.done rfl ?_
    refine Cfg.reg rfl [1, 2, 7, 37, 38, 39] [] (Γ' := [(39, [], .int .i64 0), (38, [], .int .i64 (sc.length : Int)), (37, [], .slice la sc.length ca), (7, [], .pointer (some ⟨m.d, 0, none⟩)), (1, [], .slice lb sd.length cb), (2, [], .slice lk kept.length ck)]) (nd := (fun _ => [])) (fun _ => by kernel_rfl) trivial ?_
    refine Cfg.loop rfl (ι := Nat × DK × MX) (fun (xz : Nat × DK × MX) => match xz with | (i, D, x) => [(39, [], .int .i64 (i : Int)), (38, [], .int .i64 (sc.length : Int)), (37, [], .slice la sc.length ca), (7, [], .pointer (some ⟨m.d, 0, none⟩)), (1, [], .slice lb sd.length cb), (2, [], .slice lk kept.length ck)]) (fun (xz : Nat × DK × MX) => match xz with | (i, D, x) => ([] ++ (dO D m x ++ []))) (fun (xz : Nat × DK × MX) => match xz with | (i, D, x) => (i ≤ sc.length) ∧ (DG D) ∧ (Fu D) ∧ (MapOk x.1 x.2 (wv2 D.wait)) ∧ (0 ≤ D.steps ∧ D.steps ≤ (i : Int))) (fun (xz : Nat × DK × MX) => match xz with | (i, D, x) => sc.length - i) (0, newD 64, x) ?_ (Conv.mk (by kernel_rfl)) (List.Sublist.refl _) ?_
    · exact ⟨Nat.zero_le _, DG.new (by decide), newD_fu, hmo, ⟨Int.le_refl 0, Int.le_refl 0⟩⟩
    · rintro ⟨i, D, x⟩ ⟨hi, hg, hf, hmo, hst⟩
      refine Cfg.reg rfl [1, 2, 7, 37, 38, 39, 40] [] (Γ' := [(40, [], .bool (decide ((i : Int) < (sc.length : Int)))), (39, [], .int .i64 (i : Int)), (38, [], .int .i64 (sc.length : Int)), (37, [], .slice la sc.length ca), (7, [], .pointer (some ⟨m.d, 0, none⟩)), (1, [], .slice lb sd.length cb), (2, [], .slice lk kept.length ck)]) (nd := (fun _ => [])) (fun _ => by kernel_rfl) trivial ?_
      refine Cfg.cond rfl (b := (decide ((i : Int) < (sc.length : Int)))) (by kernel_rfl) (fun c3r => ?_) (fun c3r => ?_)
      · have c3 : ((i : Int) < (sc.length : Int)) := (of_decide_eq_true c3r)
        obtain ⟨sb, off, cs, te, fre, rfl, hmem, hcs⟩ := hI (by omega)
        refine Conv.cfg (Γ' := [(40, [], .bool (decide ((i : Int) < (sc.length : Int)))), (39, [], .int .i64 (i : Int)), (38, [], .int .i64 (sc.length : Int)), (37, [], .slice (some ⟨sb, off, none⟩) sc.length ca), (7, [], .pointer (some ⟨m.d, 0, none⟩)), (1, [], .slice lb sd.length cb), (2, [], .slice lk kept.length ck)]) (Conv.mk (by kernel_rfl)) ?_
        obtain ⟨hak, hin⟩ := ak_at hA (i := i) (by omega)
        refine Cfg.begL rfl ?_
        refine CfgL.pure 2 [(0, false, none), (0, false, some (.agg (ac (sc.getD i az)).toArray))] none (Γ' := [(42, [], .agg (ac (sc.getD i az)).toArray), (41, [], .pointer (some ⟨sb, (addO off (i * 4)), none⟩)), (40, [], .bool (decide ((i : Int) < (sc.length : Int)))), (39, [], .int .i64 (i : Int)), (38, [], .int .i64 (sc.length : Int)), (37, [], .slice (some ⟨sb, off, none⟩) sc.length ca), (7, [], .pointer (some ⟨m.d, 0, none⟩)), (1, [], .slice lb sd.length cb), (2, [], .slice lk kept.length ck)]) (nd := (fun S => [(0 ≤ (i : Int) ∧ (i : Int) < (sc.length : Int)), (∀ w1, S w1 → (loadVar 30 ⟨sb, (addO off (i * 4)), none⟩).run Try.prog w1 = .ok (.agg (ac (sc.getD i az)).toArray) w1)])) (by kernel_rfl) (fun _ => by kernel_rfl) ⟨(by omega), (fun w1 h => load_list Try.underlying30 rfl (by kernel_rfl) (ac_len _) (fun j v hj => by rw [addO_eq]; exact (cell_cells (h.ro _ (List.mem_append_left _ hmem))).trans (ak_cell hcs (by omega) hj))), trivial⟩ ?_
        refine CfgL.eff (o := _) rfl (by kernel_rfl) (by kernel_rfl) (Eff.alloc (z := (.agg #[.int .i64 0, .int .i64 0, .int .u8 0, .slice none 0 0])) rfl (by kernel_rfl)) ?_
        rintro b1 ⟨hb1, nb1⟩
        refine CfgL.eff (o := _) rfl (by kernel_rfl) (by kernel_rfl) (Eff.storeN (b := b1) (off := 0) (vs := (ac (sc.getD i az)).toArray) (n := 4) rfl (by kernel_rfl) (by kernel_rfl) (by kernel_rfl) rfl (ac_all _) 0 (cs := #[.int .i64 0, .int .i64 0, .int .u8 0, .slice none 0 0]) (e := 30) (by kernel_rfl) (by show 0 + 4 ≤ 4; decide)) ?_
        rintro ⟨⟩ -
        refine CfgL.setO (O' := ([(b1, .cells ((ac (sc.getD i az)).toArray) 30 (0, 0))] ++ (dO D m x ++ []))) (congrArg (fun (xq : Array Value) => (([(b1, .cells xq 30 (0, 0))] ++ (dO D m x ++ [])) : List (Nat × Obj))) (spl_all ((by rw [List.size_toArray, ac_len]; rfl)))) ?_
        refine CfgL.done rfl ?_
        refine Conv.cfg (Γ' := [(10, [], .pointer (some ⟨b1, 0, none⟩)), (39, [], .int .i64 (i : Int)), (38, [], .int .i64 (sc.length : Int)), (37, [], .slice (some ⟨sb, off, none⟩) sc.length ca), (7, [], .pointer (some ⟨m.d, 0, none⟩)), (1, [], .slice lb sd.length cb), (2, [], .slice lk kept.length ck)]) (Conv.mk (by kernel_rfl)) ?_
        refine Cfg.begL rfl ?_
        refine CfgL.pure 6 [(0, false, none), (0, false, none), (0, false, some (.int .i64 ((sc.getD i az).q))), (0, false, none), (0, false, some (.int .u8 ((sc.getD i az).b.toNat : Int))), (0, false, some (.agg (bv (bk1 ((sc.getD i az).b)))))] none (Γ' := [(48, [], .agg (bv (bk1 ((sc.getD i az).b)))), (47, [], .int .u8 ((sc.getD i az).b.toNat : Int)), (46, [], .pointer (some ⟨b1, 2, none⟩)), (45, [], .int .i64 ((sc.getD i az).q)), (44, [], .pointer (some ⟨b1, 1, none⟩)), (43, [], .pointer (some ⟨m.d, 0, none⟩)), (10, [], .pointer (some ⟨b1, 0, none⟩)), (39, [], .int .i64 (i : Int)), (38, [], .int .i64 (sc.length : Int)), (37, [], .slice (some ⟨sb, off, none⟩) sc.length ca), (7, [], .pointer (some ⟨m.d, 0, none⟩)), (1, [], .slice lb sd.length cb), (2, [], .slice lk kept.length ck)]) (nd := (fun S => [(∀ w1, S w1 → w1.cell? ⟨b1, 1, none⟩ = some (.int .i64 ((sc.getD i az).q))), (∀ w1, S w1 → w1.cell? ⟨b1, 2, none⟩ = some (.int .u8 ((sc.getD i az).b.toNat : Int))), (∀ w1, S w1 → (Instr.build 33 #[(0, .int .u8 ((sc.getD i az).b.toNat : Int))]).run Try.prog w1 = .ok (.agg (bv (bk1 ((sc.getD i az).b)))) w1)])) (by kernel_rfl) (fun _ => by kernel_rfl) ⟨(fun w1 h => h.ocell 0 rfl rfl), (fun w1 h => h.ocell 0 rfl rfl), (fun _ _ => by kernel_rfl), trivial⟩ ?_
        refine CfgL.eff (o := _) rfl (by kernel_rfl) (by kernel_rfl) (Eff.callH (vs := [.pointer (some ⟨m.d, 0, none⟩), .int .i64 ((sc.getD i az).q), .agg (bv (bk1 ((sc.getD i az).b)))]) (fun _ : MX => .int .i64 ((writeF D ((sc.getD i az).q) (bk1 ((sc.getD i az).b))).1)) (dO D m x) (fun y => dO ((writeF D ((sc.getD i az).q) (bk1 ((sc.getD i az).b))).2) m y) (fun y => MapOk y.1 y.2 (wv2 ((writeF D ((sc.getD i az).q) (bk1 ((sc.getD i az).b))).2).wait)) [(b1, .cells ((ac (sc.getD i az)).toArray) 30 (0, 0))] [] rfl rfl Try.func8 rfl rfl (by kernel_rfl) (fun w1 h hA hd => dWrite m x D ((sc.getD i az).q) (bk1 ((sc.getD i az).b)) w1 hg hmo hA hd (bk1_len _) (by omega))) ?_
        rintro x1 hmo_x1
        refine CfgL.done rfl ?_
        refine Conv.cfg (Γ' := [(39, [], .int .i64 (i : Int)), (38, [], .int .i64 (sc.length : Int)), (37, [], .slice (some ⟨sb, off, none⟩) sc.length ca), (7, [], .pointer (some ⟨m.d, 0, none⟩)), (1, [], .slice lb sd.length cb), (2, [], .slice lk kept.length ck)]) (Conv.mk (by kernel_rfl)) ?_
        refine Cfg.reg rfl [1, 2, 7, 37, 38, 39] [] (Γ' := [(39, [], .int .i64 ((i : Int) + 1)), (38, [], .int .i64 (sc.length : Int)), (37, [], .slice (some ⟨sb, off, none⟩) sc.length ca), (7, [], .pointer (some ⟨m.d, 0, none⟩)), (1, [], .slice lb sd.length cb), (2, [], .slice lk kept.length ck)]) (nd := (fun _ => [((-9223372036854775808 : Int) ≤ ((i : Int) + 1) ∧ ((i : Int) + 1) ≤ 9223372036854775807)])) (fun _ => by kernel_rfl) ⟨(by omega), trivial⟩ ?_
        have hws := writeF_steps D (sc.getD i az).q (bk1 (sc.getD i az).b)
        refine Cfg.again rfl (i + 1, (writeF D (sc.getD i az).q (bk1 (sc.getD i az).b)).2, x1) ⟨by omega, hg.write _ (bk1_len _), hf.write _ _, hmo_x1, by omega⟩ (by show sc.length - (i + 1) < sc.length - i; omega) (Conv.mk (by kernel_rfl)) (.cons _ (List.Sublist.refl _))
      · have c3 : (¬ ((i : Int) < (sc.length : Int))) := (of_decide_eq_false c3r)
        refine Cfg.begL rfl ?_
        refine CfgL.pure 1 [] none (Γ' := [(51, [], .pointer (some ⟨m.d, 0, none⟩)), (40, [], .bool (decide ((i : Int) < (sc.length : Int)))), (39, [], .int .i64 (i : Int)), (38, [], .int .i64 (sc.length : Int)), (37, [], .slice la sc.length ca), (7, [], .pointer (some ⟨m.d, 0, none⟩)), (1, [], .slice lb sd.length cb), (2, [], .slice lk kept.length ck)]) (nd := (fun _ => [])) (by kernel_rfl) (fun _ => by kernel_rfl) trivial ?_
        refine CfgL.eff (o := _) rfl (by kernel_rfl) (by kernel_rfl) (Eff.callH (vs := [.pointer (some ⟨m.d, 0, none⟩)]) (fun _ : MX => .int .i64 ((barF D).1)) (dO D m x) (fun y => dO ((barF D).2) m y) (fun y => MapOk y.1 y.2 (wv2 ((barF D).2).wait)) [] [] rfl rfl Try.func9 rfl rfl (by kernel_rfl) (fun w1 h hA hd => dBarrier m x D w1 hg hmo hA hd (by omega))) ?_
        rintro x2 hmo_x2
        have hgB := hg.bar
        have hfB := hf.bar
        have hwB := hf.wait0
        have hsB := barF_steps D
        refine CfgL.done rfl ?_
        refine Conv.cfg (Γ' := [(7, [], .pointer (some ⟨m.d, 0, none⟩)), (1, [], .slice lb sd.length cb), (2, [], .slice lk kept.length ck)]) (Conv.mk (by kernel_rfl)) ?_
        refine Cfg.begL rfl ?_
        refine CfgL.eff (o := _) rfl (by kernel_rfl) (by kernel_rfl) (Eff.mapNew rfl) ?_
        rintro mw ⟨hmw, nmw⟩
        refine CfgL.eff (o := _) rfl (by kernel_rfl) (by kernel_rfl) (Eff.mapNew rfl) ?_
        rintro ml ⟨hml, nml⟩
        refine CfgL.pure 2 [] (some [1, 2, 7, 11, 12]) (Γ' := [(12, [], .map (some ml)), (11, [], .map (some mw)), (7, [], .pointer (some ⟨m.d, 0, none⟩)), (1, [], .slice lb sd.length cb), (2, [], .slice lk kept.length ck)]) (nd := (fun _ => [])) (by kernel_rfl) (fun _ => by kernel_rfl) trivial ?_
        refine CfgL.done rfl ?_
        refine Cfg.reg rfl [1, 2, 7, 11, 12, 55] [] (Γ' := [(55, [], .int .i64 0), (12, [], .map (some ml)), (11, [], .map (some mw)), (7, [], .pointer (some ⟨m.d, 0, none⟩)), (1, [], .slice lb sd.length cb), (2, [], .slice lk kept.length ck)]) (nd := (fun _ => [])) (fun _ => by kernel_rfl) trivial ?_
        refine Cfg.loop rfl (ι := Nat × List (Int × Value) × MX × List (Int × Value) × MX) (fun (xz : Nat × List (Int × Value) × MX × List (Int × Value) × MX) => match xz with | (k, W1, x1, W2, x2m) => [(55, [], .int .i64 (k : Int)), (12, [], .map (some ml)), (11, [], .map (some mw)), (7, [], .pointer (some ⟨m.d, 0, none⟩)), (1, [], .slice lb sd.length cb), (2, [], .slice lk kept.length ck)]) (fun (xz : Nat × List (Int × Value) × MX × List (Int × Value) × MX) => match xz with | (k, W1, x1, W2, x2m) => ([(ml, .map x2m.1 x2m.2), (mw, .map x1.1 x1.2)] ++ (dO ((barF D).2) m x2 ++ []))) (fun (xz : Nat × List (Int × Value) × MX × List (Int × Value) × MX) => match xz with | (k, W1, x1, W2, x2m) => (k ≤ 64) ∧ (MapOk x1.1 x1.2 W1) ∧ (MapOk x2m.1 x2m.2 W2) ∧ (∀ j : Nat, j < k → mget W1 (j : Int) = some (.int .u8 (hb (barF D).2 j))) ∧ (∀ j : Nat, j < k → mget W2 (j : Int) = some (.int .u8 (hb (barF D).2 j)))) (fun (xz : Nat × List (Int × Value) × MX × List (Int × Value) × MX) => match xz with | (k, W1, x1, W2, x2m) => 64 - k) (0, [], (#[], 0), [], (#[], 0)) ?_ (Conv.mk (by kernel_rfl)) (.cons_cons _ (.cons_cons _ (List.Sublist.refl _))) ?_
        · exact ⟨Nat.zero_le _, MapOk.empty 0, MapOk.empty 0, (fun j hj => absurd hj (Nat.not_lt_zero _)), (fun j hj => absurd hj (Nat.not_lt_zero _))⟩
        · rintro ⟨k, W1, x1, W2, x2m⟩ ⟨hk, hx1_, hx2m_, hw1, hw2⟩
          refine Cfg.reg rfl [1, 2, 7, 11, 12, 55, 56] [] (Γ' := [(56, [], .bool (decide ((k : Int) < (64 : Int)))), (55, [], .int .i64 (k : Int)), (12, [], .map (some ml)), (11, [], .map (some mw)), (7, [], .pointer (some ⟨m.d, 0, none⟩)), (1, [], .slice lb sd.length cb), (2, [], .slice lk kept.length ck)]) (nd := (fun _ => [])) (fun _ => by kernel_rfl) trivial ?_
          refine Cfg.cond rfl (b := (decide ((k : Int) < (64 : Int)))) (by kernel_rfl) (fun c4r => ?_) (fun c4r => ?_)
          · have c4 : ((k : Int) < (64 : Int)) := (of_decide_eq_true c4r)
            refine Cfg.reg rfl [1, 2, 7, 11, 12, 13, 55] [] (Γ' := [(13, [], .int .i64 (k : Int)), (55, [], .int .i64 (k : Int)), (12, [], .map (some ml)), (11, [], .map (some mw)), (7, [], .pointer (some ⟨m.d, 0, none⟩)), (1, [], .slice lb sd.length cb), (2, [], .slice lk kept.length ck)]) (nd := (fun _ => [])) (fun _ => by kernel_rfl) trivial ?_
            refine Cfg.begL rfl ?_
            refine CfgL.pure 4 [] none (Γ' := [(61, [], .int .i64 (k : Int)), (60, [], .pointer (some ⟨m.d, 0, none⟩)), (59, [], .int .i64 (k : Int)), (58, [], .map (some mw)), (13, [], .int .i64 (k : Int)), (55, [], .int .i64 (k : Int)), (12, [], .map (some ml)), (11, [], .map (some mw)), (7, [], .pointer (some ⟨m.d, 0, none⟩)), (1, [], .slice lb sd.length cb), (2, [], .slice lk kept.length ck)]) (nd := (fun _ => [])) (by kernel_rfl) (fun _ => by kernel_rfl) trivial ?_
            refine CfgL.eff (o := _) rfl (by kernel_rfl) (by kernel_rfl) (Eff.callA (vs := [.pointer (some ⟨m.d, 0, none⟩), .int .i64 (k : Int)]) (.agg (bv (((barF D).2).last.getD k zb))) rfl Try.func10 rfl rfl (by kernel_rfl) (fun w1 h => (by have h9 := dLasts m x2 ((barF D).2) (k : Int) w1 hgB hmo_x2 (mem_has h (List.Sublist.trans (List.sublist_append_left (dO ((barF D).2) m x2) _) (List.sublist_append_right [(ml, Obj.map x2m.1 x2m.2), (mw, Obj.map x1.1 x1.2)] _))); rw [lasts_in (by rw [hfB.n]; omega)] at h9; exact h9))) ?_
            rintro ⟨⟩ -
            refine CfgL.pure 1 [(0, false, some (.int .u8 (hb (barF D).2 k)))] none (Γ' := [(63, [], .int .u8 (hb (barF D).2 k)), (62, [], .agg (bv (((barF D).2).last.getD k zb))), (61, [], .int .i64 (k : Int)), (60, [], .pointer (some ⟨m.d, 0, none⟩)), (59, [], .int .i64 (k : Int)), (58, [], .map (some mw)), (13, [], .int .i64 (k : Int)), (55, [], .int .i64 (k : Int)), (12, [], .map (some ml)), (11, [], .map (some mw)), (7, [], .pointer (some ⟨m.d, 0, none⟩)), (1, [], .slice lb sd.length cb), (2, [], .slice lk kept.length ck)]) (nd := (fun _ => [(0 ≤ (0 : Int) ∧ (0 : Int) < (512 : Int)), (((bv (((barF D).2).last.getD k zb)))[0]? = some (.int .u8 (hb (barF D).2 k)))])) (by kernel_rfl) (fun _ => by kernel_rfl) ⟨(by omega), (bv_get (n := 512) (hgB.w.at' _) (by decide)), trivial⟩ ?_
            refine CfgL.eff (o := _) rfl (by kernel_rfl) (by kernel_rfl) (Eff.mapSet (r := mw) (k := (k : Int)) (u := .int .u8 (hb (barF D).2 k)) (es := x1.1) (ck := x1.2) rfl Try.underlying35 Try.underlying3 (by kernel_rfl) (by kernel_rfl) (by kernel_rfl) hx1_ 1 (by kernel_rfl)) ?_
            rintro ymw hymw_
            refine CfgL.done rfl ?_
            refine Conv.cfg (Γ' := [(13, [], .int .i64 (k : Int)), (55, [], .int .i64 (k : Int)), (12, [], .map (some ml)), (11, [], .map (some mw)), (7, [], .pointer (some ⟨m.d, 0, none⟩)), (1, [], .slice lb sd.length cb), (2, [], .slice lk kept.length ck)]) (Conv.mk (by kernel_rfl)) ?_
            refine Cfg.begL rfl ?_
            refine CfgL.pure 4 [] none (Γ' := [(67, [], .int .i64 (k : Int)), (66, [], .map (some mw)), (65, [], .int .i64 (k : Int)), (64, [], .map (some ml)), (13, [], .int .i64 (k : Int)), (55, [], .int .i64 (k : Int)), (12, [], .map (some ml)), (11, [], .map (some mw)), (7, [], .pointer (some ⟨m.d, 0, none⟩)), (1, [], .slice lb sd.length cb), (2, [], .slice lk kept.length ck)]) (nd := (fun _ => [])) (by kernel_rfl) (fun _ => by kernel_rfl) trivial ?_
            refine CfgL.eff (o := _) rfl (by kernel_rfl) (by kernel_rfl) (Eff.mapGetV (z := .int .u8 0) (r := mw) (k := (k : Int)) (v := .int .u8 (hb (barF D).2 k)) rfl Try.underlying35 Try.underlying3 (by kernel_rfl) (by kernel_rfl) (by kernel_rfl) hymw_ (fun w1 h => h.own (mw, _) (show (mw, Obj.map ymw.1 ymw.2) ∈ ([(ml, Obj.map x2m.1 x2m.2), (mw, Obj.map ymw.1 ymw.2)] ++ (dO ((barF D).2) m x2 ++ [])) from List.mem_append_left _ (List.mem_of_getElem? (i := 1) rfl))) (by rw [mget_set, if_pos rfl])) ?_
            rintro ⟨⟩ -
            refine CfgL.eff (o := _) rfl (by kernel_rfl) (by kernel_rfl) (Eff.mapSet (r := ml) (k := (k : Int)) (u := .int .u8 (hb (barF D).2 k)) (es := x2m.1) (ck := x2m.2) rfl Try.underlying35 Try.underlying3 (by kernel_rfl) (by kernel_rfl) (by kernel_rfl) hx2m_ 0 (by kernel_rfl)) ?_
            rintro yml hyml_
            refine CfgL.done rfl ?_
            refine Conv.cfg (Γ' := [(55, [], .int .i64 (k : Int)), (12, [], .map (some ml)), (11, [], .map (some mw)), (7, [], .pointer (some ⟨m.d, 0, none⟩)), (1, [], .slice lb sd.length cb), (2, [], .slice lk kept.length ck)]) (Conv.mk (by kernel_rfl)) ?_
            refine Cfg.reg rfl [1, 2, 7, 11, 12, 55] [] (Γ' := [(55, [], .int .i64 ((k : Int) + 1)), (12, [], .map (some ml)), (11, [], .map (some mw)), (7, [], .pointer (some ⟨m.d, 0, none⟩)), (1, [], .slice lb sd.length cb), (2, [], .slice lk kept.length ck)]) (nd := (fun _ => [((-9223372036854775808 : Int) ≤ ((k : Int) + 1) ∧ ((k : Int) + 1) ≤ 9223372036854775807)])) (fun _ => by kernel_rfl) ⟨(by omega), trivial⟩ ?_
            refine Cfg.again rfl (k + 1, mset W1 (k : Int) (.int .u8 (hb (barF D).2 k)), ymw, mset W2 (k : Int) (.int .u8 (hb (barF D).2 k)), yml) ⟨by omega, hymw_, hyml_, fun j hj => by rw [mget_set]; split; (rename_i e; rw [show j = k by omega]); exact hw1 j (by omega), fun j hj => by rw [mget_set]; split; (rename_i e; rw [show j = k by omega]); exact hw2 j (by omega)⟩ (by show 64 - (k + 1) < 64 - k; omega) (Conv.mk (by kernel_rfl)) (List.Sublist.refl _)
          · have c4 : (¬ ((k : Int) < (64 : Int))) := (of_decide_eq_false c4r)
            refine Cfg.reg rfl [1, 2, 7, 11, 12, 70, 71, 72] [] (Γ' := [(72, [], .int .i64 0), (71, [], .int .i64 (sd.length : Int)), (70, [], .slice lb sd.length cb), (12, [], .map (some ml)), (11, [], .map (some mw)), (7, [], .pointer (some ⟨m.d, 0, none⟩)), (1, [], .slice lb sd.length cb), (2, [], .slice lk kept.length ck)]) (nd := (fun _ => [])) (fun _ => by kernel_rfl) trivial ?_
            refine Cfg.loop rfl (ι := Nat × DK × MX × List (Int × Value) × MX) (fun (xz : Nat × DK × MX × List (Int × Value) × MX) => match xz with | (i, E, xe, W2, xl) => [(72, [], .int .i64 (i : Int)), (71, [], .int .i64 (sd.length : Int)), (70, [], .slice lb sd.length cb), (12, [], .map (some ml)), (11, [], .map (some mw)), (7, [], .pointer (some ⟨m.d, 0, none⟩)), (1, [], .slice lb sd.length cb), (2, [], .slice lk kept.length ck)]) (fun (xz : Nat × DK × MX × List (Int × Value) × MX) => match xz with | (i, E, xe, W2, xl) => ([(ml, .map xl.1 xl.2), (mw, .map x1.1 x1.2)] ++ (dO E m xe ++ []))) (fun (xz : Nat × DK × MX × List (Int × Value) × MX) => match xz with | (i, E, xe, W2, xl) => (i ≤ sd.length) ∧ (DG E) ∧ (Fu E) ∧ (MapOk xe.1 xe.2 (wv2 E.wait)) ∧ (0 ≤ E.steps ∧ E.steps ≤ (sc.length : Int) + 1 + (i : Int)) ∧ (hb E = hb (barF D).2) ∧ (E.wait.length ≤ i) ∧ (MapOk xl.1 xl.2 W2) ∧ (∀ j : Nat, j < 64 → mget W2 (j : Int) = some (.int .u8 (sh E j)))) (fun (xz : Nat × DK × MX × List (Int × Value) × MX) => match xz with | (i, E, xe, W2, xl) => sd.length - i) (0, (barF D).2, x2, W2, x2m) ?_ (Conv.mk (by kernel_rfl)) (List.Sublist.refl _) ?_
            · exact ⟨Nat.zero_le _, hgB, hfB, hmo_x2, by omega, rfl, by rw [hwB]; exact Nat.zero_le _, hx2m_, fun j hj => by rw [sh0 hwB]; exact hw2 j (by omega)⟩
            · rintro ⟨i, E, xe, W2, xl⟩ ⟨hi, hgE, hfE, hmo_xe, hst, hlE, hwn, hxl_, hw2⟩
              refine Cfg.reg rfl [1, 2, 7, 11, 12, 70, 71, 72, 73] [] (Γ' := [(73, [], .bool (decide ((i : Int) < (sd.length : Int)))), (72, [], .int .i64 (i : Int)), (71, [], .int .i64 (sd.length : Int)), (70, [], .slice lb sd.length cb), (12, [], .map (some ml)), (11, [], .map (some mw)), (7, [], .pointer (some ⟨m.d, 0, none⟩)), (1, [], .slice lb sd.length cb), (2, [], .slice lk kept.length ck)]) (nd := (fun _ => [])) (fun _ => by kernel_rfl) trivial ?_
              refine Cfg.cond rfl (b := (decide ((i : Int) < (sd.length : Int)))) (by kernel_rfl) (fun c5r => ?_) (fun c5r => ?_)
              · have c5 : ((i : Int) < (sd.length : Int)) := (of_decide_eq_true c5r)
                obtain ⟨sb, off, cs, te, fre, rfl, hmem, hcs⟩ := hJ (by omega)
                refine Conv.cfg (Γ' := [(73, [], .bool (decide ((i : Int) < (sd.length : Int)))), (72, [], .int .i64 (i : Int)), (71, [], .int .i64 (sd.length : Int)), (70, [], .slice (some ⟨sb, off, none⟩) sd.length cb), (12, [], .map (some ml)), (11, [], .map (some mw)), (7, [], .pointer (some ⟨m.d, 0, none⟩)), (1, [], .slice (some ⟨sb, off, none⟩) sd.length cb), (2, [], .slice lk kept.length ck)]) (Conv.mk (by kernel_rfl)) ?_
                obtain ⟨hak, hin⟩ := ak_at hB (i := i) (by omega)
                refine Cfg.begL rfl ?_
                refine CfgL.pure 2 [(0, false, none), (0, false, some (.agg (ac (sd.getD i az)).toArray))] none (Γ' := [(75, [], .agg (ac (sd.getD i az)).toArray), (74, [], .pointer (some ⟨sb, (addO off (i * 4)), none⟩)), (73, [], .bool (decide ((i : Int) < (sd.length : Int)))), (72, [], .int .i64 (i : Int)), (71, [], .int .i64 (sd.length : Int)), (70, [], .slice (some ⟨sb, off, none⟩) sd.length cb), (12, [], .map (some ml)), (11, [], .map (some mw)), (7, [], .pointer (some ⟨m.d, 0, none⟩)), (1, [], .slice (some ⟨sb, off, none⟩) sd.length cb), (2, [], .slice lk kept.length ck)]) (nd := (fun S => [(0 ≤ (i : Int) ∧ (i : Int) < (sd.length : Int)), (∀ w1, S w1 → (loadVar 30 ⟨sb, (addO off (i * 4)), none⟩).run Try.prog w1 = .ok (.agg (ac (sd.getD i az)).toArray) w1)])) (by kernel_rfl) (fun _ => by kernel_rfl) ⟨(by omega), (fun w1 h => load_list Try.underlying30 rfl (by kernel_rfl) (ac_len _) (fun j v hj => by rw [addO_eq]; exact (cell_cells (h.ro _ (List.mem_append_right _ (List.mem_append_left _ hmem)))).trans (ak_cell hcs (by omega) hj))), trivial⟩ ?_
                refine CfgL.eff (o := _) rfl (by kernel_rfl) (by kernel_rfl) (Eff.alloc (z := (.agg #[.int .i64 0, .int .i64 0, .int .u8 0, .slice none 0 0])) rfl (by kernel_rfl)) ?_
                rintro b2 ⟨hb2, nb2⟩
                refine CfgL.eff (o := _) rfl (by kernel_rfl) (by kernel_rfl) (Eff.storeN (b := b2) (off := 0) (vs := (ac (sd.getD i az)).toArray) (n := 4) rfl (by kernel_rfl) (by kernel_rfl) (by kernel_rfl) rfl (ac_all _) 0 (cs := #[.int .i64 0, .int .i64 0, .int .u8 0, .slice none 0 0]) (e := 30) (by kernel_rfl) (by show 0 + 4 ≤ 4; decide)) ?_
                rintro ⟨⟩ -
                refine CfgL.setO (O' := ([(b2, .cells ((ac (sd.getD i az)).toArray) 30 (0, 0)), (ml, .map xl.1 xl.2), (mw, .map x1.1 x1.2)] ++ (dO E m xe ++ []))) (congrArg (fun (xq : Array Value) => (([(b2, .cells xq 30 (0, 0)), (ml, .map xl.1 xl.2), (mw, .map x1.1 x1.2)] ++ (dO E m xe ++ [])) : List (Nat × Obj))) (spl_all ((by rw [List.size_toArray, ac_len]; rfl)))) ?_
                refine CfgL.done rfl ?_
                refine Conv.cfg (Γ' := [(15, [], .pointer (some ⟨b2, 0, none⟩)), (72, [], .int .i64 (i : Int)), (71, [], .int .i64 (sd.length : Int)), (70, [], .slice (some ⟨sb, off, none⟩) sd.length cb), (12, [], .map (some ml)), (11, [], .map (some mw)), (7, [], .pointer (some ⟨m.d, 0, none⟩)), (1, [], .slice (some ⟨sb, off, none⟩) sd.length cb), (2, [], .slice lk kept.length ck)]) (Conv.mk (by kernel_rfl)) ?_
                refine Cfg.begL rfl ?_
                refine CfgL.pure 6 [(0, false, none), (0, false, none), (0, false, some (.int .i64 ((sd.getD i az).q))), (0, false, none), (0, false, some (.int .u8 ((sd.getD i az).b.toNat : Int))), (0, false, some (.agg (bv (bk1 ((sd.getD i az).b)))))] none (Γ' := [(81, [], .agg (bv (bk1 ((sd.getD i az).b)))), (80, [], .int .u8 ((sd.getD i az).b.toNat : Int)), (79, [], .pointer (some ⟨b2, 2, none⟩)), (78, [], .int .i64 ((sd.getD i az).q)), (77, [], .pointer (some ⟨b2, 1, none⟩)), (76, [], .pointer (some ⟨m.d, 0, none⟩)), (15, [], .pointer (some ⟨b2, 0, none⟩)), (72, [], .int .i64 (i : Int)), (71, [], .int .i64 (sd.length : Int)), (70, [], .slice (some ⟨sb, off, none⟩) sd.length cb), (12, [], .map (some ml)), (11, [], .map (some mw)), (7, [], .pointer (some ⟨m.d, 0, none⟩)), (1, [], .slice (some ⟨sb, off, none⟩) sd.length cb), (2, [], .slice lk kept.length ck)]) (nd := (fun S => [(∀ w1, S w1 → w1.cell? ⟨b2, 1, none⟩ = some (.int .i64 ((sd.getD i az).q))), (∀ w1, S w1 → w1.cell? ⟨b2, 2, none⟩ = some (.int .u8 ((sd.getD i az).b.toNat : Int))), (∀ w1, S w1 → (Instr.build 33 #[(0, .int .u8 ((sd.getD i az).b.toNat : Int))]).run Try.prog w1 = .ok (.agg (bv (bk1 ((sd.getD i az).b)))) w1)])) (by kernel_rfl) (fun _ => by kernel_rfl) ⟨(fun w1 h => h.ocell 0 rfl rfl), (fun w1 h => h.ocell 0 rfl rfl), (fun _ _ => by kernel_rfl), trivial⟩ ?_
                refine CfgL.eff (o := _) rfl (by kernel_rfl) (by kernel_rfl) (Eff.callH (vs := [.pointer (some ⟨m.d, 0, none⟩), .int .i64 ((sd.getD i az).q), .agg (bv (bk1 ((sd.getD i az).b)))]) (fun _ : MX => .int .i64 ((writeF E ((sd.getD i az).q) (bk1 ((sd.getD i az).b))).1)) (dO E m xe) (fun y => dO ((writeF E ((sd.getD i az).q) (bk1 ((sd.getD i az).b))).2) m y) (fun y => MapOk y.1 y.2 (wv2 ((writeF E ((sd.getD i az).q) (bk1 ((sd.getD i az).b))).2).wait)) [(b2, .cells ((ac (sd.getD i az)).toArray) 30 (0, 0)), (ml, .map xl.1 xl.2), (mw, .map x1.1 x1.2)] [] rfl rfl Try.func8 rfl rfl (by kernel_rfl) (fun w1 h hA hd => dWrite m xe E ((sd.getD i az).q) (bk1 ((sd.getD i az).b)) w1 hgE hmo_xe hA hd (bk1_len _) (by omega))) ?_
                rintro x3 hmo_x3
                refine CfgL.pure 1 [] (some [1, 2, 7, 11, 12, 15, 70, 71, 72, 83]) (Γ' := [(83, [], .bool (((writeF E ((sd.getD i az).q) (bk1 ((sd.getD i az).b))).1) == (0 : Int))), (15, [], .pointer (some ⟨b2, 0, none⟩)), (72, [], .int .i64 (i : Int)), (71, [], .int .i64 (sd.length : Int)), (70, [], .slice (some ⟨sb, off, none⟩) sd.length cb), (12, [], .map (some ml)), (11, [], .map (some mw)), (7, [], .pointer (some ⟨m.d, 0, none⟩)), (1, [], .slice (some ⟨sb, off, none⟩) sd.length cb), (2, [], .slice lk kept.length ck)]) (nd := (fun _ => [])) (by kernel_rfl) (fun _ => by kernel_rfl) trivial ?_
                refine CfgL.done rfl ?_
                refine Cfg.cond rfl (b := (((writeF E ((sd.getD i az).q) (bk1 ((sd.getD i az).b))).1) == (0 : Int))) (by kernel_rfl) (fun c6r => ?_) (fun c6r => ?_)
                · have c6 : (((writeF E ((sd.getD i az).q) (bk1 ((sd.getD i az).b))).1) = (0 : Int)) := (beq_iff_eq.1 c6r)
                  refine Cfg.begL rfl ?_
                  refine CfgL.pure 5 [(0, false, none), (0, false, none), (0, false, some (.int .i64 ((sd.getD i az).q))), (0, false, none), (0, false, some (.int .u8 ((sd.getD i az).b.toNat : Int)))] none (Γ' := [(88, [], .int .u8 ((sd.getD i az).b.toNat : Int)), (87, [], .pointer (some ⟨b2, 2, none⟩)), (86, [], .int .i64 ((sd.getD i az).q)), (85, [], .pointer (some ⟨b2, 1, none⟩)), (84, [], .map (some ml)), (83, [], .bool (((writeF E ((sd.getD i az).q) (bk1 ((sd.getD i az).b))).1) == (0 : Int))), (15, [], .pointer (some ⟨b2, 0, none⟩)), (72, [], .int .i64 (i : Int)), (71, [], .int .i64 (sd.length : Int)), (70, [], .slice (some ⟨sb, off, none⟩) sd.length cb), (12, [], .map (some ml)), (11, [], .map (some mw)), (7, [], .pointer (some ⟨m.d, 0, none⟩)), (1, [], .slice (some ⟨sb, off, none⟩) sd.length cb), (2, [], .slice lk kept.length ck)]) (nd := (fun S => [(∀ w1, S w1 → w1.cell? ⟨b2, 1, none⟩ = some (.int .i64 ((sd.getD i az).q))), (∀ w1, S w1 → w1.cell? ⟨b2, 2, none⟩ = some (.int .u8 ((sd.getD i az).b.toNat : Int)))])) (by kernel_rfl) (fun _ => by kernel_rfl) ⟨(fun w1 h => h.ocell 0 rfl rfl), (fun w1 h => h.ocell 0 rfl rfl), trivial⟩ ?_
                  refine CfgL.eff (o := _) rfl (by kernel_rfl) (by kernel_rfl) (Eff.mapSet (r := ml) (k := ((sd.getD i az).q)) (u := .int .u8 ((sd.getD i az).b.toNat : Int)) (es := xl.1) (ck := xl.2) rfl Try.underlying35 Try.underlying3 (by kernel_rfl) (by kernel_rfl) (by kernel_rfl) hxl_ 1 (by kernel_rfl)) ?_
                  rintro yml hyml_
                  refine CfgL.done rfl ?_
                  refine Conv.cfg (Γ' := [(72, [], .int .i64 (i : Int)), (71, [], .int .i64 (sd.length : Int)), (70, [], .slice (some ⟨sb, off, none⟩) sd.length cb), (12, [], .map (some ml)), (11, [], .map (some mw)), (7, [], .pointer (some ⟨m.d, 0, none⟩)), (1, [], .slice (some ⟨sb, off, none⟩) sd.length cb), (2, [], .slice lk kept.length ck)]) (Conv.mk (by kernel_rfl)) ?_
                  refine Cfg.reg rfl [1, 2, 7, 11, 12, 70, 71, 72] [] (Γ' := [(72, [], .int .i64 ((i : Int) + 1)), (71, [], .int .i64 (sd.length : Int)), (70, [], .slice (some ⟨sb, off, none⟩) sd.length cb), (12, [], .map (some ml)), (11, [], .map (some mw)), (7, [], .pointer (some ⟨m.d, 0, none⟩)), (1, [], .slice (some ⟨sb, off, none⟩) sd.length cb), (2, [], .slice lk kept.length ck)]) (nd := (fun _ => [((-9223372036854775808 : Int) ≤ ((i : Int) + 1) ∧ ((i : Int) + 1) ≤ 9223372036854775807)])) (fun _ => by kernel_rfl) ⟨(by omega), trivial⟩ ?_
                  have cw := c6
                  have hws := writeF_steps E (sd.getD i az).q (bk1 (sd.getD i az).b)
                  have hwl := wr_len E (sd.getD i az).q (bk1 (sd.getD i az).b)
                  refine Cfg.again rfl (i + 1, (writeF E (sd.getD i az).q (bk1 (sd.getD i az).b)).2, x3, mset W2 (sd.getD i az).q (.int .u8 ((sd.getD i az).b.toNat : Int)), yml) ⟨by omega, hgE.write _ (bk1_len _), hfE.write _ _, hmo_x3, by omega, by rw [wr_last]; exact hlE, by omega, hyml_, (fun j hj => by rw [mget_set, wr_yes hfE cw j]; split; rfl; exact hw2 j hj)⟩ (by show sd.length - (i + 1) < sd.length - i; omega) (Conv.mk (by kernel_rfl)) (.cons _ (List.Sublist.refl _))
                · have c6 : (((writeF E ((sd.getD i az).q) (bk1 ((sd.getD i az).b))).1) ≠ (0 : Int)) := (beq_eq_false_iff_ne.1 c6r)
                  refine Cfg.reg rfl [1, 2, 7, 11, 12, 70, 71, 72] [] (Γ' := [(72, [], .int .i64 ((i : Int) + 1)), (71, [], .int .i64 (sd.length : Int)), (70, [], .slice (some ⟨sb, off, none⟩) sd.length cb), (12, [], .map (some ml)), (11, [], .map (some mw)), (7, [], .pointer (some ⟨m.d, 0, none⟩)), (1, [], .slice (some ⟨sb, off, none⟩) sd.length cb), (2, [], .slice lk kept.length ck)]) (nd := (fun _ => [((-9223372036854775808 : Int) ≤ ((i : Int) + 1) ∧ ((i : Int) + 1) ≤ 9223372036854775807)])) (fun _ => by kernel_rfl) ⟨(by omega), trivial⟩ ?_
                  have cw := c6
                  have hws := writeF_steps E (sd.getD i az).q (bk1 (sd.getD i az).b)
                  have hwl := wr_len E (sd.getD i az).q (bk1 (sd.getD i az).b)
                  refine Cfg.again rfl (i + 1, (writeF E (sd.getD i az).q (bk1 (sd.getD i az).b)).2, x3, W2, xl) ⟨by omega, hgE.write _ (bk1_len _), hfE.write _ _, hmo_x3, by omega, by rw [wr_last]; exact hlE, by omega, hxl_, (fun j hj => by rw [wr_no hfE cw]; exact hw2 j hj)⟩ (by show sd.length - (i + 1) < sd.length - i; omega) (Conv.mk (by kernel_rfl)) (.cons _ (List.Sublist.refl _))
              · have c5 : (¬ ((i : Int) < (sd.length : Int))) := (of_decide_eq_false c5r)
                refine Cfg.begL rfl ?_
                refine CfgL.pure 1 [] none (Γ' := [(90, [], .pointer (some ⟨m.d, 0, none⟩)), (73, [], .bool (decide ((i : Int) < (sd.length : Int)))), (72, [], .int .i64 (i : Int)), (71, [], .int .i64 (sd.length : Int)), (70, [], .slice lb sd.length cb), (12, [], .map (some ml)), (11, [], .map (some mw)), (7, [], .pointer (some ⟨m.d, 0, none⟩)), (1, [], .slice lb sd.length cb), (2, [], .slice lk kept.length ck)]) (nd := (fun _ => [])) (by kernel_rfl) (fun _ => by kernel_rfl) trivial ?_
                refine CfgL.eff (o := _) rfl (by kernel_rfl) (by kernel_rfl) (Eff.callOF (vs := [.pointer (some ⟨m.d, 0, none⟩)]) 3 1 E.wait.length ((keysW E.wait).map Go.encZ) [(ml, .map xl.1 xl.2), (mw, .map x1.1 x1.2)] ([] ++ (dO E m xe ++ [])) rfl rfl Try.func11 rfl rfl (by kernel_rfl) (fun w1 h => dWaits m xe E w1 hgE hmo_xe (mem_has h (List.Sublist.trans (List.sublist_append_left (dO E m xe) _) (List.sublist_append_right [(ml, Obj.map xl.1 xl.2), (mw, Obj.map x1.1 x1.2)] _))))) ?_
                rintro o4 ko4
                refine CfgL.pure 2 [] (some [1, 2, 7, 11, 12, 16]) (Γ' := [(16, [], .int .i64 (E.wait.length : Int)), (12, [], .map (some ml)), (11, [], .map (some mw)), (7, [], .pointer (some ⟨m.d, 0, none⟩)), (1, [], .slice lb sd.length cb), (2, [], .slice lk kept.length ck)]) (nd := (fun _ => [])) (by kernel_rfl) (fun _ => by kernel_rfl) trivial ?_
                refine CfgL.done rfl ?_
                refine Cfg.begL rfl ?_
                refine CfgL.pure 2 [] none (Γ' := [(94, [], .slice lk kept.length ck), (93, [], .pointer (some ⟨m.d, 0, none⟩)), (16, [], .int .i64 (E.wait.length : Int)), (12, [], .map (some ml)), (11, [], .map (some mw)), (7, [], .pointer (some ⟨m.d, 0, none⟩)), (1, [], .slice lb sd.length cb), (2, [], .slice lk kept.length ck)]) (nd := (fun _ => [])) (by kernel_rfl) (fun _ => by kernel_rfl) trivial ?_
                refine CfgL.eff (o := _) rfl (by kernel_rfl) (by kernel_rfl) (Eff.callH (vs := [.pointer (some ⟨m.d, 0, none⟩), .slice lk kept.length ck]) (fun _ : MX => .tuple #[]) (dO E m xe) (fun y => dO (crashF kept E) m y) (fun y => MapOk y.1 y.2 (wv2 (crashF kept E).wait)) ([(ml, .map xl.1 xl.2), (mw, .map x1.1 x1.2)] ++ (Own.o 3 ((keysW E.wait).map Go.encZ) o4)) [] rfl rfl Try.func12 rfl rfl (by kernel_rfl) (fun w1 h hA hd => dCrash m xe E lk ck kept Rk w1 hgE hmo_xe hA hd hK hkl (h.hasR (fun e he => List.mem_append_right _ (List.mem_append_right _ he))) (apart (Fl := ([(ml, Obj.map xl.1 xl.2), (mw, Obj.map x1.1 x1.2)] ++ (Own.o 3 ((keysW E.wait).map Go.encZ) o4))) (A := dO E m xe) (T := []) h (fun e he => List.mem_append_right _ (List.mem_append_right _ he))))) ?_
                rintro x5 hmo_x5
                have hgC := hgE.crash kept
                have hfC : (crashF kept E).last.length = 64 := by rw [crashF_len]; exact hfE.n
                refine CfgL.done rfl ?_
                refine Conv.cfg (Γ' := [(16, [], .int .i64 (E.wait.length : Int)), (12, [], .map (some ml)), (11, [], .map (some mw)), (7, [], .pointer (some ⟨m.d, 0, none⟩)), (1, [], .slice lb sd.length cb)]) (Conv.mk (by kernel_rfl)) ?_
                refine Cfg.reg rfl [1, 7, 11, 12, 16, 96] [] (Γ' := [(96, [], .int .i64 0), (16, [], .int .i64 (E.wait.length : Int)), (12, [], .map (some ml)), (11, [], .map (some mw)), (7, [], .pointer (some ⟨m.d, 0, none⟩)), (1, [], .slice lb sd.length cb)]) (nd := (fun _ => [])) (fun _ => by kernel_rfl) trivial ?_
                refine Cfg.loop rfl (ι := Nat) (fun (k : Nat) => [(96, [], .int .i64 (k : Int)), (16, [], .int .i64 (E.wait.length : Int)), (12, [], .map (some ml)), (11, [], .map (some mw)), (7, [], .pointer (some ⟨m.d, 0, none⟩)), (1, [], .slice lb sd.length cb)]) (fun (k : Nat) => ([(ml, .map xl.1 xl.2), (mw, .map x1.1 x1.2)] ++ (dO (crashF kept E) m x5 ++ []))) (fun (k : Nat) => (k ≤ 64)) (fun (k : Nat) => 64 - k) 0 ?_ (Conv.mk (by kernel_rfl)) (.cons_cons _ (.cons_cons _ (List.Sublist.trans (List.Sublist.append (List.Sublist.refl _) (List.Sublist.refl _)) (List.sublist_append_right _ _)))) ?_
                · exact Nat.zero_le _
                · rintro k hk4
                  refine Cfg.reg rfl [1, 7, 11, 12, 16, 96, 97] [] (Γ' := [(97, [], .bool (decide ((k : Int) < (64 : Int)))), (96, [], .int .i64 (k : Int)), (16, [], .int .i64 (E.wait.length : Int)), (12, [], .map (some ml)), (11, [], .map (some mw)), (7, [], .pointer (some ⟨m.d, 0, none⟩)), (1, [], .slice lb sd.length cb)]) (nd := (fun _ => [])) (fun _ => by kernel_rfl) trivial ?_
                  refine Cfg.cond rfl (b := (decide ((k : Int) < (64 : Int)))) (by kernel_rfl) (fun c7r => ?_) (fun c7r => ?_)
                  · have c7 : ((k : Int) < (64 : Int)) := (of_decide_eq_true c7r)
                    refine Cfg.reg rfl [1, 7, 11, 12, 16, 17, 96] [] (Γ' := [(17, [], .int .i64 (k : Int)), (96, [], .int .i64 (k : Int)), (16, [], .int .i64 (E.wait.length : Int)), (12, [], .map (some ml)), (11, [], .map (some mw)), (7, [], .pointer (some ⟨m.d, 0, none⟩)), (1, [], .slice lb sd.length cb)]) (nd := (fun _ => [])) (fun _ => by kernel_rfl) trivial ?_
                    refine Cfg.begL rfl ?_
                    refine CfgL.pure 2 [] none (Γ' := [(101, [], .int .i64 (k : Int)), (100, [], .pointer (some ⟨m.d, 0, none⟩)), (17, [], .int .i64 (k : Int)), (96, [], .int .i64 (k : Int)), (16, [], .int .i64 (E.wait.length : Int)), (12, [], .map (some ml)), (11, [], .map (some mw)), (7, [], .pointer (some ⟨m.d, 0, none⟩)), (1, [], .slice lb sd.length cb)]) (nd := (fun _ => [])) (by kernel_rfl) (fun _ => by kernel_rfl) trivial ?_
                    refine CfgL.eff (o := _) rfl (by kernel_rfl) (by kernel_rfl) (Eff.callA (vs := [.pointer (some ⟨m.d, 0, none⟩), .int .i64 (k : Int)]) (.tuple #[.agg (bv ((crashF kept E).last.getD k zb)), .int .i64 0]) rfl Try.func13 rfl rfl (by kernel_rfl) (fun w1 h => (by have h9 := dRead m x5 (crashF kept E) (k : Int) w1 hgC hmo_x5 (mem_has h (List.Sublist.trans (List.sublist_append_left (dO (crashF kept E) m x5) _) (List.sublist_append_right [(ml, Obj.map xl.1 xl.2), (mw, Obj.map x1.1 x1.2)] _))); obtain ⟨r1, r2⟩ := rd_crash (D := E) kept (j := k) (by rw [hfE.n]; omega); rw [r1, r2] at h9; exact h9))) ?_
                    rintro ⟨⟩ -
                    refine CfgL.pure 3 [] none (Γ' := [(104, [], .int .i64 0), (103, [], .agg (bv ((crashF kept E).last.getD k zb))), (99, [], .tuple #[.agg (bv ((crashF kept E).last.getD k zb)), .int .i64 0]), (102, [], .tuple #[.agg (bv ((crashF kept E).last.getD k zb)), .int .i64 0]), (101, [], .int .i64 (k : Int)), (100, [], .pointer (some ⟨m.d, 0, none⟩)), (17, [], .int .i64 (k : Int)), (96, [], .int .i64 (k : Int)), (16, [], .int .i64 (E.wait.length : Int)), (12, [], .map (some ml)), (11, [], .map (some mw)), (7, [], .pointer (some ⟨m.d, 0, none⟩)), (1, [], .slice lb sd.length cb)]) (nd := (fun _ => [])) (by kernel_rfl) (fun _ => by kernel_rfl) trivial ?_
                    refine CfgL.eff (o := _) rfl (by kernel_rfl) (by kernel_rfl) (Eff.alloc (z := (.agg (bv (List.replicate 512 0)))) rfl (by kernel_rfl)) ?_
                    rintro b3 ⟨hb3, nb3⟩
                    refine CfgL.eff (o := _) rfl (by kernel_rfl) (by kernel_rfl) (Eff.storeN (b := b3) (off := 0) (vs := (bv ((crashF kept E).last.getD k zb))) (n := 512) rfl (by kernel_rfl) (by kernel_rfl) (by kernel_rfl) ((bv_size _).trans (hgC.w.at' _)) (all_bv _) 0 (cs := (bv (List.replicate 512 0))) (e := 33) (by kernel_rfl) (by rw [zsz512]; omega)) ?_
                    rintro ⟨⟩ -
                    refine CfgL.setO (O' := ([(b3, .cells (bv ((crashF kept E).last.getD k zb)) 33 (0, 0)), (ml, .map xl.1 xl.2), (mw, .map x1.1 x1.2)] ++ (dO (crashF kept E) m x5 ++ []))) (congrArg (fun (xq : Array Value) => (([(b3, .cells xq 33 (0, 0)), (ml, .map xl.1 xl.2), (mw, .map x1.1 x1.2)] ++ (dO (crashF kept E) m x5 ++ [])) : List (Nat × Obj))) (spl_all (((bv_size _).trans (hgC.w.at' _)).trans zsz512.symm))) ?_
                    refine CfgL.pure 1 [] (some [1, 7, 11, 12, 16, 17, 18, 19, 96]) (Γ' := [(19, [], .int .i64 0), (18, [], .pointer (some ⟨b3, 0, none⟩)), (17, [], .int .i64 (k : Int)), (96, [], .int .i64 (k : Int)), (16, [], .int .i64 (E.wait.length : Int)), (12, [], .map (some ml)), (11, [], .map (some mw)), (7, [], .pointer (some ⟨m.d, 0, none⟩)), (1, [], .slice lb sd.length cb)]) (nd := (fun _ => [])) (by kernel_rfl) (fun _ => by kernel_rfl) trivial ?_
                    refine CfgL.done rfl ?_
                    refine Cfg.begA rfl (by kernel_rfl) ([(b3, .cells (bv ((crashF kept E).last.getD k zb)) 33 (0, 0)), (ml, .map xl.1 xl.2), (mw, .map x1.1 x1.2)] ++ (dO (crashF kept E) m x5 ++ [])) ?_
                    refine CfgA.pure [0, 1, 2, 3, 4, 5] [(0, false, none), (0, false, none), (0, false, none), (1, false, some (.agg (bv ((crashF kept E).last.getD k zb)))), (1, false, none), (1, false, none)] none (l' := #[true, true, true, true, true, true, false, false, false, false, false, false, false, false, false, false, false, false, false, false, false, false, false, false, false]) (by kernel_rfl) (by kernel_rfl) (.cons_cons _ (.cons_cons _ (.cons_cons _ (List.Sublist.refl _)))) 19 rfl (Γ' := [(110, [], .int .i64 (k : Int)), (109, [], .pointer (some ⟨m.d, 0, none⟩)), (108, [], .agg (bv ((crashF kept E).last.getD k zb))), (107, [], .bool false), (106, [], .bool false), (105, [], .int .i64 0), (19, [], .int .i64 0), (18, [], .pointer (some ⟨b3, 0, none⟩)), (17, [], .int .i64 (k : Int)), (96, [], .int .i64 (k : Int)), (16, [], .int .i64 (E.wait.length : Int)), (12, [], .map (some ml)), (11, [], .map (some mw)), (7, [], .pointer (some ⟨m.d, 0, none⟩)), (1, [], .slice lb sd.length cb)]) (nd := (fun S => [((.bool false : Value) = .bool false), (∀ w1, S w1 → (loadVar 33 ⟨b3, 0, none⟩).run Try.prog w1 = .ok (.agg (bv ((crashF kept E).last.getD k zb))) w1), ((.bool false : Value) = .bool false), ((.bool false : Value) = .bool false)])) (fun _ => by kernel_rfl) ⟨rfl, (fun w1 h => h.oload 0 rfl Try.underlying33 rfl (n := 512) (by kernel_rfl) ((bv_size _).trans (hgC.w.at' _))), rfl, rfl, trivial⟩ ?_
                    refine CfgA.eff 6 (o := _) rfl (by kernel_rfl) (fuel' := 18) rfl (by kernel_rfl) (by kernel_rfl) (Eff.callA (vs := [.pointer (some ⟨m.d, 0, none⟩), .int .i64 (k : Int)]) (.agg (bv ((crashF kept E).last.getD k zb))) rfl Try.func10 rfl rfl (by kernel_rfl) (fun w1 h => (by have h9 := dLasts m x5 (crashF kept E) (k : Int) w1 hgC hmo_x5 (mem_has h (List.Sublist.trans (List.sublist_append_left (dO (crashF kept E) m x5) _) (List.sublist_append_right [(b3, Obj.cells (bv ((crashF kept E).last.getD k zb)) 33 (0, 0)), (ml, Obj.map xl.1 xl.2), (mw, Obj.map x1.1 x1.2)] _))); rw [lasts_in (by rw [hfC]; omega)] at h9; exact h9))) (fun _ _ => (.cons_cons _ (.cons_cons _ (.cons_cons _ (List.Sublist.refl _))))) ?_
                    rintro ⟨⟩ -
                    refine CfgA.pure [7, 8, 9, 10, 11, 12, 13] [(1, false, some (.bool true)), (0, false, none), (0, false, none), (1, false, none), (1, false, some (.int .u8 (hb (crashF kept E) k))), (1, false, none), (1, false, none)] none (l' := #[true, true, true, true, true, true, true, true, true, true, true, true, true, true, false, false, false, false, false, false, false, false, false, false, false]) (by kernel_rfl) (by kernel_rfl) (.cons_cons _ (.cons_cons _ (.cons_cons _ (List.Sublist.refl _)))) 11 rfl (Γ' := [(118, [], .int .i64 (k : Int)), (117, [], .map (some mw)), (116, [], .int .u8 (hb (crashF kept E) k)), (115, [], .pointer (some ⟨b3, 0, none⟩)), (114, [], .bool false), (113, [], .bool false), (112, [], .bool false), (111, [], .agg (bv ((crashF kept E).last.getD k zb))), (110, [], .int .i64 (k : Int)), (109, [], .pointer (some ⟨m.d, 0, none⟩)), (108, [], .agg (bv ((crashF kept E).last.getD k zb))), (107, [], .bool false), (106, [], .bool false), (105, [], .int .i64 0), (19, [], .int .i64 0), (18, [], .pointer (some ⟨b3, 0, none⟩)), (17, [], .int .i64 (k : Int)), (96, [], .int .i64 (k : Int)), (16, [], .int .i64 (E.wait.length : Int)), (12, [], .map (some ml)), (11, [], .map (some mw)), (7, [], .pointer (some ⟨m.d, 0, none⟩)), (1, [], .slice lb sd.length cb)]) (nd := (fun S => [((.bool false : Value) = .bool false), (∀ w1, S w1 → (Op.equal 33 (.agg (bv ((crashF kept E).last.getD k zb))) (.agg (bv ((crashF kept E).last.getD k zb)))).run Try.prog w1 = .ok true w1), ((.bool false : Value) = .bool false), (0 ≤ (0 : Int) ∧ (0 : Int) < (512 : Int)), ((.bool false : Value) = .bool false), (∀ w1, S w1 → w1.cell? ⟨b3, 0, none⟩ = some (.int .u8 (hb (crashF kept E) k))), ((.bool false : Value) = .bool false), ((.bool false : Value) = .bool false)])) (fun _ => by kernel_rfl) ⟨rfl, (fun _ _ => (equal_bv Try.underlying33 Try.underlying5 (by kernel_rfl) (hgC.w.at' _) (hgC.w.at' _)).trans (by rw [beq_self_eq_true])), rfl, (by omega), rfl, (fun w1 h => h.ocell 0 rfl (bv_get (n := 512) (hgC.w.at' _) (by decide))), rfl, rfl, trivial⟩ ?_
                    refine CfgA.eff 14 (o := _) rfl (by kernel_rfl) (fuel' := 10) rfl (by kernel_rfl) (by kernel_rfl) (Eff.mapGetV (z := .int .u8 0) (r := mw) (k := (k : Int)) (v := .int .u8 (hb (barF D).2 k)) rfl Try.underlying35 Try.underlying3 (by kernel_rfl) (by kernel_rfl) (by kernel_rfl) hx1_ (fun w1 h => h.own (mw, _) (show (mw, Obj.map x1.1 x1.2) ∈ ([(b3, Obj.cells (bv ((crashF kept E).last.getD k zb)) 33 (0, 0)), (ml, Obj.map xl.1 xl.2), (mw, Obj.map x1.1 x1.2)] ++ (dO (crashF kept E) m x5 ++ [])) from List.mem_append_left _ (List.mem_of_getElem? (i := 2) rfl))) (hw1 k (by omega))) (fun _ _ => (.cons_cons _ (.cons_cons _ (.cons_cons _ (List.Sublist.refl _))))) ?_
                    rintro ⟨⟩ -
                    refine CfgA.pure [15, 16] [(1, false, none), (1, false, none)] none (l' := #[true, true, true, true, true, true, true, true, true, true, true, true, true, true, true, true, true, false, false, false, false, false, false, false, false]) (by kernel_rfl) (by kernel_rfl) (.cons_cons _ (.cons_cons _ (.cons_cons _ (List.Sublist.refl _)))) 8 rfl (Γ' := [(121, [], .bool ((hb (crashF kept E) k) != (hb (barF D).2 k))), (120, [], .bool ((hb (crashF kept E) k) != (hb (barF D).2 k))), (119, [], .int .u8 (hb (barF D).2 k)), (118, [], .int .i64 (k : Int)), (117, [], .map (some mw)), (116, [], .int .u8 (hb (crashF kept E) k)), (115, [], .pointer (some ⟨b3, 0, none⟩)), (114, [], .bool false), (113, [], .bool false), (112, [], .bool false), (111, [], .agg (bv ((crashF kept E).last.getD k zb))), (110, [], .int .i64 (k : Int)), (109, [], .pointer (some ⟨m.d, 0, none⟩)), (108, [], .agg (bv ((crashF kept E).last.getD k zb))), (107, [], .bool false), (106, [], .bool false), (105, [], .int .i64 0), (19, [], .int .i64 0), (18, [], .pointer (some ⟨b3, 0, none⟩)), (17, [], .int .i64 (k : Int)), (96, [], .int .i64 (k : Int)), (16, [], .int .i64 (E.wait.length : Int)), (12, [], .map (some ml)), (11, [], .map (some mw)), (7, [], .pointer (some ⟨m.d, 0, none⟩)), (1, [], .slice lb sd.length cb)]) (nd := (fun _ => [((.bool false : Value) = .bool false), ((.bool false : Value) = .bool false)])) (fun _ => by kernel_rfl) ⟨rfl, rfl, trivial⟩ ?_
                    by_cases c8 : ((hb (crashF kept E) k) != (hb (barF D).2 k)) = true
                    · have c8k : ((hb (crashF kept E) k) != (hb (barF D).2 k)) = true := c8
                      have c8q : ((hb (crashF kept E) k) ≠ (hb (barF D).2 k)) := (bne_iff_ne.1 c8k)
                      refine CfgA.known 121 (b := ((hb (crashF kept E) k) != (hb (barF D).2 k))) (by kernel_rfl) true c8k ?_
                      refine CfgA.pure [17, 18, 19, 20] [(1, false, none), (1, false, some (.int .u8 (hb (crashF kept E) k))), (1, false, none), (1, false, none)] none (l' := #[true, true, true, true, true, true, true, true, true, true, true, true, true, true, true, true, true, true, true, true, true, false, false, false, false]) (by kernel_rfl) (by kernel_rfl) (.cons_cons _ (.cons_cons _ (.cons_cons _ (List.Sublist.refl _)))) 4 rfl (Γ' := [(125, [], .int .i64 (k : Int)), (124, [], .map (some ml)), (123, [], .int .u8 (hb (crashF kept E) k)), (122, [], .pointer (some ⟨b3, 0, none⟩)), (121, [], .bool true), (120, [], .bool ((hb (crashF kept E) k) != (hb (barF D).2 k))), (119, [], .int .u8 (hb (barF D).2 k)), (118, [], .int .i64 (k : Int)), (117, [], .map (some mw)), (116, [], .int .u8 (hb (crashF kept E) k)), (115, [], .pointer (some ⟨b3, 0, none⟩)), (114, [], .bool false), (113, [], .bool false), (112, [], .bool false), (111, [], .agg (bv ((crashF kept E).last.getD k zb))), (110, [], .int .i64 (k : Int)), (109, [], .pointer (some ⟨m.d, 0, none⟩)), (108, [], .agg (bv ((crashF kept E).last.getD k zb))), (107, [], .bool false), (106, [], .bool false), (105, [], .int .i64 0), (19, [], .int .i64 0), (18, [], .pointer (some ⟨b3, 0, none⟩)), (17, [], .int .i64 (k : Int)), (96, [], .int .i64 (k : Int)), (16, [], .int .i64 (E.wait.length : Int)), (12, [], .map (some ml)), (11, [], .map (some mw)), (7, [], .pointer (some ⟨m.d, 0, none⟩)), (1, [], .slice lb sd.length cb)]) (nd := (fun S => [((.bool true : Value) = .bool true), (0 ≤ (0 : Int) ∧ (0 : Int) < (512 : Int)), ((.bool true : Value) = .bool true), (∀ w1, S w1 → w1.cell? ⟨b3, 0, none⟩ = some (.int .u8 (hb (crashF kept E) k))), ((.bool true : Value) = .bool true), ((.bool true : Value) = .bool true)])) (fun _ => by kernel_rfl) ⟨rfl, (by omega), rfl, (fun w1 h => h.ocell 0 rfl (bv_get (n := 512) (hgC.w.at' _) (by decide))), rfl, rfl, trivial⟩ ?_
                      refine CfgA.eff 21 (o := _) rfl (by kernel_rfl) (fuel' := 3) rfl (by kernel_rfl) (by kernel_rfl) (Eff.mapGetV (z := .int .u8 0) (r := ml) (k := (k : Int)) (v := .int .u8 (sh E k)) rfl Try.underlying35 Try.underlying3 (by kernel_rfl) (by kernel_rfl) (by kernel_rfl) hxl_ (fun w1 h => h.own (ml, _) (show (ml, Obj.map xl.1 xl.2) ∈ ([(b3, Obj.cells (bv ((crashF kept E).last.getD k zb)) 33 (0, 0)), (ml, Obj.map xl.1 xl.2), (mw, Obj.map x1.1 x1.2)] ++ (dO (crashF kept E) m x5 ++ [])) from List.mem_append_left _ (List.mem_of_getElem? (i := 1) rfl))) (hw2 k (by omega))) (fun _ _ => (.cons_cons _ (.cons_cons _ (.cons_cons _ (List.Sublist.refl _))))) ?_
                      rintro ⟨⟩ -
                      refine CfgA.pure [22, 23, 24] [(1, false, none), (1, false, none)] (some [1, 7, 11, 12, 16, 96, 129]) (l' := #[true, true, true, true, true, true, true, true, true, true, true, true, true, true, true, true, true, true, true, true, true, true, true, true, true]) (by kernel_rfl) (by kernel_rfl) (.cons_cons _ (.cons_cons _ (.cons_cons _ (List.Sublist.refl _)))) 0 rfl (Γ' := [(129, [], .bool ((hb (crashF kept E) k) != (sh E k))), (96, [], .int .i64 (k : Int)), (16, [], .int .i64 (E.wait.length : Int)), (12, [], .map (some ml)), (11, [], .map (some mw)), (7, [], .pointer (some ⟨m.d, 0, none⟩)), (1, [], .slice lb sd.length cb)]) (nd := (fun _ => [((.bool true : Value) = .bool true), ((.bool false : Value) = .bool false)])) (fun _ => by kernel_rfl) ⟨rfl, rfl, trivial⟩ ?_
                      refine CfgA.done (by kernel_rfl) ?_
                      refine Cfg.condF rfl (b := ((hb (crashF kept E) k) != (sh E k))) (by kernel_rfl) (by have h1 := crash_or hgE kept k; rw [hlE] at h1; have h2 : hb (crashF kept E) k ≠ hb (barF D).2 k := (by simpa using c8); rw [h1.resolve_left h2]; exact bne_self_eq_false _) ?_
                      refine Cfg.reg rfl [1, 7, 11, 12, 16, 96] [] (Γ' := [(96, [], .int .i64 ((k : Int) + 1)), (16, [], .int .i64 (E.wait.length : Int)), (12, [], .map (some ml)), (11, [], .map (some mw)), (7, [], .pointer (some ⟨m.d, 0, none⟩)), (1, [], .slice lb sd.length cb)]) (nd := (fun _ => [((-9223372036854775808 : Int) ≤ ((k : Int) + 1) ∧ ((k : Int) + 1) ≤ 9223372036854775807)])) (fun _ => by kernel_rfl) ⟨(by omega), trivial⟩ ?_
                      refine Cfg.again rfl (k + 1) (show k + 1 ≤ 64 by omega) (by omega) (Conv.mk (by kernel_rfl)) (.cons _ (List.Sublist.refl _))
                    · have c8k : ((hb (crashF kept E) k) != (hb (barF D).2 k)) = false := (by simpa using c8)
                      have c8q : ((hb (crashF kept E) k) = (hb (barF D).2 k)) := (bne_eq_false_iff_eq.1 c8k)
                      refine CfgA.known 121 (b := ((hb (crashF kept E) k) != (hb (barF D).2 k))) (by kernel_rfl) false c8k ?_
                      refine CfgA.pure [17, 18, 19, 20, 21, 22, 23, 24] [(2, false, none), (2, false, none), (2, false, none), (2, false, none), (2, false, none), (2, false, none), (1, false, none)] (some [1, 7, 11, 12, 16, 96, 129]) (l' := #[true, true, true, true, true, true, true, true, true, true, true, true, true, true, true, true, true, true, true, true, true, true, true, true, true]) (by kernel_rfl) (by kernel_rfl) (.cons_cons _ (.cons_cons _ (.cons_cons _ (List.Sublist.refl _)))) 0 rfl (Γ' := [(129, [], .bool false), (96, [], .int .i64 (k : Int)), (16, [], .int .i64 (E.wait.length : Int)), (12, [], .map (some ml)), (11, [], .map (some mw)), (7, [], .pointer (some ⟨m.d, 0, none⟩)), (1, [], .slice lb sd.length cb)]) (nd := (fun _ => [((.bool false : Value) ≠ .bool true), ((.bool false : Value) ≠ .bool true), ((.bool false : Value) ≠ .bool true), ((.bool false : Value) ≠ .bool true), ((.bool false : Value) ≠ .bool true), ((.bool false : Value) ≠ .bool true), ((.bool false : Value) = .bool false)])) (fun _ => by kernel_rfl) ⟨(by simp), (by simp), (by simp), (by simp), (by simp), (by simp), rfl, trivial⟩ ?_
                      refine CfgA.done (by kernel_rfl) ?_
                      refine Cfg.condF rfl (b := false) (by kernel_rfl) rfl ?_
                      refine Cfg.reg rfl [1, 7, 11, 12, 16, 96] [] (Γ' := [(96, [], .int .i64 ((k : Int) + 1)), (16, [], .int .i64 (E.wait.length : Int)), (12, [], .map (some ml)), (11, [], .map (some mw)), (7, [], .pointer (some ⟨m.d, 0, none⟩)), (1, [], .slice lb sd.length cb)]) (nd := (fun _ => [((-9223372036854775808 : Int) ≤ ((k : Int) + 1) ∧ ((k : Int) + 1) ≤ 9223372036854775807)])) (fun _ => by kernel_rfl) ⟨(by omega), trivial⟩ ?_
                      refine Cfg.again rfl (k + 1) (show k + 1 ≤ 64 by omega) (by omega) (Conv.mk (by kernel_rfl)) (.cons _ (List.Sublist.refl _))
                  · have c7 : (¬ ((k : Int) < (64 : Int))) := (of_decide_eq_false c7r)
                    refine Cfg.begL rfl ?_
                    refine CfgL.pure 1 [] none (Γ' := [(131, [], .pointer (some ⟨m.d, 0, none⟩)), (97, [], .bool (decide ((k : Int) < (64 : Int)))), (96, [], .int .i64 (k : Int)), (16, [], .int .i64 (E.wait.length : Int)), (12, [], .map (some ml)), (11, [], .map (some mw)), (7, [], .pointer (some ⟨m.d, 0, none⟩)), (1, [], .slice lb sd.length cb)]) (nd := (fun _ => [])) (by kernel_rfl) (fun _ => by kernel_rfl) trivial ?_
                    refine CfgL.eff (o := _) rfl (by kernel_rfl) (by kernel_rfl) (Eff.callOF (vs := [.pointer (some ⟨m.d, 0, none⟩)]) 3 1 (crashF kept E).wait.length ((keysW (crashF kept E).wait).map Go.encZ) [(ml, .map xl.1 xl.2), (mw, .map x1.1 x1.2)] ([] ++ (dO (crashF kept E) m x5 ++ [])) rfl rfl Try.func11 rfl rfl (by kernel_rfl) (fun w1 h => dWaits m x5 (crashF kept E) w1 hgC hmo_x5 (mem_has h (List.Sublist.trans (List.sublist_append_left (dO (crashF kept E) m x5) _) (List.sublist_append_right [(ml, Obj.map xl.1 xl.2), (mw, Obj.map x1.1 x1.2)] _))))) ?_
                    rintro o6 ko6
                    refine CfgL.pure 9 [] (some [6]) (Γ' := [(6, [], .bool ((((crashF kept E).wait.length : Int) == (0 : Int)) && (decide ((E.wait.length : Int) ≤ (sd.length : Int)))))]) (nd := (fun _ => [])) (by kernel_rfl) (fun _ => by kernel_rfl) trivial ?_
                    refine CfgL.done rfl ?_
                    refine Cfg.ret rfl (rs := [.tmp 6]) rfl [.bool ((((crashF kept E).wait.length : Int) == (0 : Int)) && (decide ((E.wait.length : Int) ≤ (sd.length : Int))))] ⟨by kernel_rfl, trivial⟩ (fun w1 hp => ?_)
                    have hw4 : (crashF kept E).wait.length = 0 := rfl
                    refine ⟨?_, hp.ext⟩
                    simp only [resOf]
                    rw [hw4]
                    simp
                    omega

end Go.Proofs.Ytnoipbbcpiaemaa
