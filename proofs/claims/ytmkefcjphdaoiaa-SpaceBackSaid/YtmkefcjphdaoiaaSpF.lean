/- space: the example of the chapter. -/
import Derived.Test.YtmkefcjphdaoiaaSpE
namespace Go.Proofs.Ytmkefcjphdaoiaa
open K
set_option linter.unusedVariables false

theorem HP.sep {w0 w : World} {M : List Nat} {R Fl Al T : List (Nat × Obj)} (h : HP w0 M R (Fl ++ (Al ++ T)) w) {e : Nat × Obj} (he : e ∈ Fl) : e.1 ∉ Al.map (·.1) := by
  have hd := h.dist
  rw [List.map_append, List.map_append] at hd
  intro hm
  exact (List.nodup_append.1 hd).2.2 _ (List.mem_map.2 ⟨e, he, rfl⟩) _ (List.mem_append_left _ hm) rfl
theorem newF_hi (f t : Int) : (t ≤ f → ((newF f t).length : Int) = 0) ∧ (f < t → (t - f < 4096 → ((newF f t).length : Int) = t - f) ∧ (4096 ≤ t - f → ((newF f t).length : Int) = 4096)) := by
  unfold newF
  split
  · rename_i h; exact ⟨fun _ => rfl, fun h2 => by omega⟩
  · rename_i h
    refine ⟨fun h2 => absurd h2 h, fun _ => ?_⟩
    rw [List.length_replicate]
    exact ⟨fun _ => by omega, fun _ => by omega⟩
theorem free_new (f t : Int) : suml (runsAt (newF f t) 0) = (newF f t).length := by
  rw [suml_count, List.drop_zero]
  unfold newF
  split
  · rfl
  · rw [List.count_replicate_self, List.length_replicate]
theorem new59 : newF 5 9 = [true, true, true, true] := by decide
theorem runs59 : runsAt [true, true, true, true] 0 = [(0, 4)] := by
  rw [runsAt_some (n := 4) (by decide) (by decide) (by decide), runsAt_end (by decide)]
theorem take59 : takeF 5 [true, true, true, true] 3 = (5, 0, [false, false, false, true]) := by
  have h := take_ok (f := 5) (fr := [true, true, true, true]) (n := 3) (pre := []) (rest := []) (k := 0) (m := 4) (by decide) runs59 (fun y hy => by cases hy) (by decide)
  exact h.1.trans (by decide)
theorem free59 : suml (runsAt [false, false, false, true] 0) = 1 := by rw [suml_count]; decide
theorem is_at {fr : List Bool} {k W : Nat} (h0 : 0 < W) (h : k + W ≤ fr.length) : (inP 0 (fill fr k W false).length (0 + (k : Int)) && (fill fr k W false).getD ((0 + (k : Int)) - 0).toNat false) = false := by
  rw [show ((0 + (k : Int)) - 0).toNat = k by omega, fill_getD _ _ _ _ _ h, if_pos (by omega), Bool.and_false]
theorem is_prev {fr : List Bool} {k W : Nat} (hk : k = 0 ∨ fr.getD (k - 1) false = false) (h1 : (0 + (k : Int)) ≠ 0) (h : k + W ≤ fr.length) : (inP 0 (fill fr k W false).length ((0 + (k : Int)) - 1) && (fill fr k W false).getD (((0 + (k : Int)) - 1) - 0).toNat false) = false := by
  rw [show (((0 + (k : Int)) - 1) - 0).toNat = k - 1 by omega, fill_getD _ _ _ _ _ h, if_neg (by omega), hk.resolve_left (by omega), Bool.and_false]
theorem want_ok {f t : Int} {N : Int} (hf : -9223372036854775808 ≤ f ∧ f ≤ 9223372036854775807) (ht : -9223372036854775808 ≤ t ∧ t ≤ 9223372036854775807) (hlt : f < t) (hh : f < t → (t - f < 4096 → N = t - f) ∧ (4096 ≤ t - f → N = 4096)) :
    (((N == 4096) && (decide ((((t % 18446744073709551616) - (f % 18446744073709551616)) % 18446744073709551616) ≥ 4096))) || ((N % 18446744073709551616) == (((t % 18446744073709551616) - (f % 18446744073709551616)) % 18446744073709551616))) = true := by
  rw [Bool.or_eq_true]
  by_cases h9 : t - f < 4096
  · right; exact beq_iff_eq.2 (by omega)
  · left; rw [Bool.and_eq_true]; exact ⟨beq_iff_eq.2 (by omega), decide_eq_true (by omega)⟩
def ffst (W : Nat) (pre : List (Nat × Nat)) : Int := match pre.find? (fun r => decide ((W : Int) ≤ (r.2 : Int))) with | none => -1 | some r => 0 + (r.1 : Int)
theorem ffst_none {W : Nat} {pre : List (Nat × Nat)} (h : ∀ y ∈ pre, tkP (W : Int) y = true) : ffst W pre = -1 := by unfold ffst; rw [tk_none h]
theorem ffst_some {W : Nat} {pre : List (Nat × Nat)} {a : Nat × Nat} (h : ∀ y ∈ pre, tkP (W : Int) y = true) (ha : tkP (W : Int) a = false) : ffst W (pre ++ [a]) = 0 + (a.1 : Int) := by unfold ffst; rw [tk_some h ha]

set_option maxRecDepth 100000 in
theorem awakeC (w : World) :
    Calls Try.prog 10 #[] w fun e w' => e = .returned (.bool true) ∧ Ext [] w w' := by
  refine enter (vs := []) [] [] [] Try.func10 rfl (by kernel_rfl) (HP.start w) ?_
  refine Cfg.reg rfl [] [] (Γ' := []) (nd := (fun _ => [])) (fun _ => by kernel_rfl) trivial ?_
  refine Cfg.begL rfl ?_
  refine CfgL.eff (o := _) rfl (by kernel_rfl) (by kernel_rfl) (Eff.callH (vs := [.int .i64 5, .int .i64 9]) (fun x : Nat × K.Own => .pointer (some ⟨x.1, 0, none⟩)) [] (fun x => spO x.1 (5 : Int) x.2 ([true, true, true, true])) (fun x => Good x.2 ([true, true, true, true])) [] [] rfl rfl Try.func11 rfl rfl (by kernel_rfl) (fun w1 h _ _ => (by have h9 := newU (5 : Int) (9 : Int) w1 (by unfold I64; omega) (by unfold I64; omega); rw [new59] at h9; exact h9))) ?_
  rintro ⟨s1, o1⟩ hg_o1
  have hl_1 := newF_len (5 : Int) (9 : Int)
  have hh_1 := newF_hi (5 : Int) (9 : Int)
  refine CfgL.pure 1 [] (some [1]) (Γ' := [(1, [], .pointer (some ⟨s1, 0, none⟩))]) (nd := (fun _ => [])) (by kernel_rfl) (fun _ => by kernel_rfl) trivial ?_
  refine CfgL.done rfl ?_
  refine Cfg.reg rfl [1, 6] [] (Γ' := [(6, [], .bool false), (1, [], .pointer (some ⟨s1, 0, none⟩))]) (nd := (fun _ => [])) (fun _ => by kernel_rfl) trivial ?_
  refine Cfg.condF rfl (b := false) (by kernel_rfl) rfl ?_
  refine Cfg.begL rfl ?_
  refine CfgL.pure 1 [] none (Γ' := [(8, [], .pointer (some ⟨s1, 0, none⟩)), (6, [], .bool false), (1, [], .pointer (some ⟨s1, 0, none⟩))]) (nd := (fun _ => [])) (by kernel_rfl) (fun _ => by kernel_rfl) trivial ?_
  refine CfgL.eff (o := _) rfl (by kernel_rfl) (by kernel_rfl) (Eff.callH (vs := [.pointer (some ⟨s1, 0, none⟩), .int .i64 3]) (fun _ : K.Own => .tuple #[.int .i64 5, .int .i64 0]) (spO s1 (5 : Int) o1 ([true, true, true, true])) (fun o => spO s1 (5 : Int) o ([false, false, false, true])) (fun o => Good o ([false, false, false, true])) [] [] rfl rfl Try.func14 rfl rfl (by kernel_rfl) (fun w1 h hA hd => (by have h9 := takeU s1 (5 : Int) o1 ([true, true, true, true]) (3 : Int) w1 (by simp only [List.length_cons, List.length_nil]; omega) (by simp only [List.length_cons, List.length_nil]; omega) hg_o1 (by unfold I64; omega) hA hd; rw [take59] at h9; exact h9))) ?_
  rintro o2 hg_o2
  refine CfgL.pure 5 [] (some [1, 2, 3]) (Γ' := [(3, [], .int .i64 0), (2, [], .int .i64 5), (1, [], .pointer (some ⟨s1, 0, none⟩))]) (nd := (fun _ => [])) (by kernel_rfl) (fun _ => by kernel_rfl) trivial ?_
  refine CfgL.done rfl ?_
  refine Cfg.begL rfl ?_
  refine CfgL.pure 8 [(0, false, none), (0, false, none), (0, false, none), (1, false, none), (1, false, none), (0, false, none), (0, false, none), (1, false, none)] none (Γ' := [(19, [], .pointer (some ⟨s1, 0, none⟩)), (18, [], .bool true), (17, [], .bool true), (16, [], .bool true), (15, [], .int .i64 0), (14, [], .bool true), (13, [], .bool true), (12, [], .int .i64 5), (3, [], .int .i64 0), (2, [], .int .i64 5), (1, [], .pointer (some ⟨s1, 0, none⟩))]) (nd := (fun _ => [((.bool true : Value) = .bool true), ((.bool true : Value) = .bool true), ((.bool true : Value) = .bool true)])) (by kernel_rfl) (fun _ => by kernel_rfl) ⟨rfl, rfl, rfl, trivial⟩ ?_
  refine CfgL.eff (o := _) rfl (by kernel_rfl) (by kernel_rfl) (Eff.callA (vs := [.pointer (some ⟨s1, 0, none⟩)]) (.int .i64 1) rfl Try.func17 rfl rfl (by kernel_rfl) (fun w1 h => (by have h9 := freeU s1 (5 : Int) o2 ([false, false, false, true]) w1 (by simp only [List.length_cons, List.length_nil]; omega) (by simp only [List.length_cons, List.length_nil]; omega) hg_o2 (h.has (fun e he => List.mem_append_right _ (List.mem_append_left _ he))); rw [free59] at h9; exact h9))) ?_
  rintro ⟨⟩ -
  refine CfgL.pure 4 [(1, false, none), (0, false, none), (0, false, none), (1, false, none)] none (Γ' := [(24, [], .pointer (some ⟨s1, 0, none⟩)), (23, [], .bool true), (22, [], .bool true), (21, [], .bool true), (20, [], .int .i64 1), (19, [], .pointer (some ⟨s1, 0, none⟩)), (18, [], .bool true), (17, [], .bool true), (16, [], .bool true), (15, [], .int .i64 0), (14, [], .bool true), (13, [], .bool true), (12, [], .int .i64 5), (3, [], .int .i64 0), (2, [], .int .i64 5), (1, [], .pointer (some ⟨s1, 0, none⟩))]) (nd := (fun _ => [((.bool true : Value) = .bool true), ((.bool true : Value) = .bool true)])) (by kernel_rfl) (fun _ => by kernel_rfl) ⟨rfl, rfl, trivial⟩ ?_
  refine CfgL.eff (o := _) rfl (by kernel_rfl) (by kernel_rfl) (Eff.callA (vs := [.pointer (some ⟨s1, 0, none⟩), .int .i64 8]) (.bool true) rfl Try.func15 rfl rfl (by kernel_rfl) (fun w1 h => (by have h9 := isU s1 (5 : Int) (8 : Int) o2 ([false, false, false, true]) w1 (by unfold I64; omega) (by unfold I64; omega) (by simp only [List.length_cons, List.length_nil]; omega) hg_o2 (h.has (fun e he => List.mem_append_right _ (List.mem_append_left _ he))); rw [(show (inP 5 [false, false, false, true].length 8 && [false, false, false, true].getD (8 - 5 : Int).toNat false) = true by decide)] at h9; exact h9))) ?_
  rintro ⟨⟩ -
  refine CfgL.pure 3 [(0, false, none), (0, false, none), (1, false, none)] none (Γ' := [(28, [], .pointer (some ⟨s1, 0, none⟩)), (27, [], .bool true), (26, [], .bool true), (25, [], .bool true), (24, [], .pointer (some ⟨s1, 0, none⟩)), (23, [], .bool true), (22, [], .bool true), (21, [], .bool true), (20, [], .int .i64 1), (19, [], .pointer (some ⟨s1, 0, none⟩)), (18, [], .bool true), (17, [], .bool true), (16, [], .bool true), (15, [], .int .i64 0), (14, [], .bool true), (13, [], .bool true), (12, [], .int .i64 5), (3, [], .int .i64 0), (2, [], .int .i64 5), (1, [], .pointer (some ⟨s1, 0, none⟩))]) (nd := (fun _ => [((.bool true : Value) = .bool true)])) (by kernel_rfl) (fun _ => by kernel_rfl) ⟨rfl, trivial⟩ ?_
  refine CfgL.eff (o := _) rfl (by kernel_rfl) (by kernel_rfl) (Eff.callA (vs := [.pointer (some ⟨s1, 0, none⟩), .int .i64 5]) (.bool false) rfl Try.func15 rfl rfl (by kernel_rfl) (fun w1 h => (by have h9 := isU s1 (5 : Int) (5 : Int) o2 ([false, false, false, true]) w1 (by unfold I64; omega) (by unfold I64; omega) (by simp only [List.length_cons, List.length_nil]; omega) hg_o2 (h.has (fun e he => List.mem_append_right _ (List.mem_append_left _ he))); rw [(show (inP 5 [false, false, false, true].length 5 && [false, false, false, true].getD (5 - 5 : Int).toNat false) = false by decide)] at h9; exact h9))) ?_
  rintro ⟨⟩ -
  refine CfgL.pure 3 [(1, false, none)] (some [0]) (Γ' := [(0, [], .bool true)]) (nd := (fun _ => [((.bool true : Value) = .bool true)])) (by kernel_rfl) (fun _ => by kernel_rfl) ⟨rfl, trivial⟩ ?_
  refine CfgL.done rfl ?_
  refine Cfg.ret rfl (rs := [.tmp 0]) rfl [.bool true] ⟨by kernel_rfl, trivial⟩ (fun w1 hp => ?_)
  exact ⟨rfl, hp.ext⟩

end Go.Proofs.Ytmkefcjphdaoiaa
