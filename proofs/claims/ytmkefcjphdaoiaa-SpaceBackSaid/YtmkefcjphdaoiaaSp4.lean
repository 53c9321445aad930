/- space: the iterator over the runs. -/
import Derived.Test.YtmkefcjphdaoiaaSp3
import Derived.Test.YtmkefcjphdaoiaaK19
namespace Go.Proofs.Ytmkefcjphdaoiaa
open K
set_option linter.unusedVariables false

def rlen (fr : List Bool) (k : Nat) : Nat := ((fr.drop k).takeWhile id).length
theorem rlen_is {fr : List Bool} : ∀ {n k : Nat}, (∀ j, j < n → fr.getD (k + j) false = true) → k + n ≤ fr.length → (fr.length ≤ k + n ∨ fr.getD (k + n) false = false) → rlen fr k = n := by
  intro n
  induction n with
  | zero =>
    intro k _ hk h
    unfold rlen
    rcases Nat.lt_or_ge k fr.length with hlt | hge
    · rw [List.drop_eq_getElem_cons hlt]
      rcases h with h | h
      · omega
      · have hx : fr[k] = false := by simpa [List.getD_eq_getElem?_getD, List.getElem?_eq_getElem hlt] using h
        simp [hx]
    · rw [List.drop_eq_nil_of_le hge]; rfl
  | succ n ih =>
    intro k h1 hk h2
    have hlt : k < fr.length := by omega
    have hx : fr[k] = true := by simpa [List.getD_eq_getElem?_getD, List.getElem?_eq_getElem hlt] using h1 0 (by omega)
    have := ih (k := k + 1) (fun j hj => by rw [show k + 1 + j = k + (j + 1) by omega]; exact h1 (j + 1) (by omega)) (by omega) (by rw [show k + 1 + n = k + (n + 1) by omega]; exact h2)
    unfold rlen at this ⊢
    rw [List.drop_eq_getElem_cons hlt, List.takeWhile_cons, hx]
    simp [this]
/-- The runs from place k on. -/
def runsAt (fr : List Bool) (k : Nat) : List (Nat × Nat) :=
  if k < fr.length then (if 0 < rlen fr k then [(k, rlen fr k)] else []) ++ runsAt fr (k + rlen fr k + 1) else []
termination_by fr.length - k
theorem runsAt_end {fr : List Bool} {k : Nat} (h : ¬ k < fr.length) : runsAt fr k = [] := by rw [runsAt, if_neg h]
theorem runsAt_some {fr : List Bool} {k n : Nat} (h : k < fr.length) (hn : rlen fr k = n) (h0 : 0 < n) : runsAt fr k = (k, n) :: runsAt fr (k + n + 1) := by
  rw [runsAt, if_pos h, hn, if_pos h0]; rfl
theorem runsAt_none {fr : List Bool} {k n : Nat} (h : k < fr.length) (hn : rlen fr k = n) (h0 : ¬ 0 < n) : runsAt fr k = runsAt fr (k + n + 1) := by
  rw [runsAt, if_pos h, hn, if_neg h0]; rfl
theorem inA {A : List (Nat × Obj)} {x : Nat × Obj} (h : x ∈ A) : x ∈ ([] : List (Nat × Obj)) ++ (A ++ []) := by simpa using h
theorem fr_cell {fr : List Bool} {jk : List Value} {i : Nat} (h : i < fr.length) : (rb fr ++ jk).toArray[i]? = some (.bool (fr.getD i false)) := rb_cell fr jk h

set_option maxRecDepth 100000 in
theorem runsIt0 (l dr tb s b cp : Nat) (fi : FuncId) (T : Array Value) (ps : Array Tmp) (assign body : Code) (jk : List Value) (f : Int) (fr : List Bool) (σ : Type) (A : σ → List (Nat × Obj)) (J : List (Nat × Nat) → σ → Prop) (s0 : σ) (p : Nat × Nat → Bool) (w : World) (hf : -9223372036854775808 ≤ f ∧ f + fr.length ≤ 9223372036854775807) (hm : fr.length ≤ 4096) (hps : ps.size = 1) (hJ : J [] s0) (hA : Has w (A s0)) (hd : ((A s0).map (·.1)).Nodup) (hmem : ∀ pre x, (∀ y ∈ pre, p y = true) → J pre x → (∀ e ∈ [(tb, Obj.cells #[.pointer (some ⟨s, 0, none⟩)] 24 (0, 0)), (s, Obj.cells #[.int .i64 f, .slice (some ⟨b, 0, none⟩) fr.length cp] 94 (0, 0)), (b, Obj.cells (rb fr ++ jk).toArray 4 (0, 0))], e ∈ A x) ∧ (l, Obj.loop (rec0 fi T ps assign body dr .ready none)) ∈ A x) (hy : ∀ pre x (a : Nat × Nat) rest, (∀ y ∈ pre, p y = true) → J pre x → runsAt fr 0 = pre ++ a :: rest → ∀ w, Has w (A x) → ((A x).map (·.1)).Nodup → RoundIn Fence.wide 0 Try.prog l fi ((ps.zip #[(fun (x : Nat × Nat) => Value.agg #[.int .i64 (f + (x.1 : Int)), .int .i64 (x.2 : Int)]) a]).foldl (fun tmps (t, a) => tmps.setIfInBounds t a) T) assign body w fun e w' => ∃ y, J (pre ++ [a]) y ∧ e = .returned (.bool (p a)) ∧ ∃ R1, HP w ((A x).map (·.1)) R1 (A y) w') :
    Calls Try.prog 54 #[.func (.yield l) #[] #[], .pointer (some ⟨tb, 0, none⟩)] w fun e w' => ∃ y, J (vis p (runsAt fr 0)) y ∧ e = .returned (.tuple #[]) ∧ ∃ R1, HP w ((A s0).map (·.1)) R1 (A y) w' := by
  refine enter (vs := [.func (.yield l) #[] #[], .pointer (some ⟨tb, 0, none⟩)]) ((A s0).map (·.1)) [] ([] ++ (A s0 ++ [])) Try.func54 rfl (by kernel_rfl) (by have h0 := HP.ofL hA hd (R := []) (fun e he => by cases he) (fun e he => by cases he); simpa using h0) ?_
  refine Cfg.reg rfl [0, 1, 6] [(0, false, some (.pointer (some ⟨s, 0, none⟩)))] (Γ' := [(6, [], .bool false), (0, [], .func (.yield l) #[] #[]), (1, [], .pointer (some ⟨tb, 0, none⟩))]) (nd := (fun S => [(∀ w1, S w1 → w1.cell? ⟨tb, 0, none⟩ = some (.pointer (some ⟨s, 0, none⟩)))])) (fun _ => by kernel_rfl) ⟨(fun w1 h => cell_cells (h.own _ (inA ((hmem [] s0 (fun x hx => by cases hx) hJ).1 _ (List.mem_cons_self ..))))), trivial⟩ ?_
  refine Cfg.condF rfl (b := false) (by kernel_rfl) rfl ?_
  refine Cfg.reg rfl [0, 1, 3] [] (Γ' := [(3, [], .int .i64 0), (0, [], .func (.yield l) #[] #[]), (1, [], .pointer (some ⟨tb, 0, none⟩))]) (nd := (fun _ => [])) (fun _ => by kernel_rfl) trivial ?_
  refine Cfg.loop rfl (ι := Nat × List (Nat × Nat) × σ) (fun (x : Nat × List (Nat × Nat) × σ) => match x with | (k, pre, x) => [(3, [], .int .i64 (k : Int)), (0, [], .func (.yield l) #[] #[]), (1, [], .pointer (some ⟨tb, 0, none⟩))]) (fun (x : Nat × List (Nat × Nat) × σ) => match x with | (k, pre, x) => ([] ++ (A x ++ []))) (fun (x : Nat × List (Nat × Nat) × σ) => match x with | (k, pre, x) => (k ≤ fr.length + 1) ∧ (runsAt fr 0 = pre ++ runsAt fr k) ∧ (∀ x ∈ pre, p x = true) ∧ (J pre x)) (fun (x : Nat × List (Nat × Nat) × σ) => match x with | (k, pre, x) => fr.length + 2 - k) (0, [], s0) ?_ (Conv.mk (by kernel_rfl)) (List.Sublist.refl _) ?_
  · exact ⟨Nat.zero_le _, rfl, (fun x hx => by cases hx), hJ⟩
  · rintro ⟨k, pre, x⟩ ⟨hk, hR, hal, hJx⟩
    refine Cfg.reg rfl [0, 1, 3, 13] [(0, false, none), (0, false, some (.pointer (some ⟨s, 0, none⟩))), (0, false, none), (0, false, none), (0, false, some (.slice (some ⟨b, 0, none⟩) fr.length cp))] (Γ' := [(13, [], .bool (decide ((k : Int) < (fr.length : Int)))), (3, [], .int .i64 (k : Int)), (0, [], .func (.yield l) #[] #[]), (1, [], .pointer (some ⟨tb, 0, none⟩))]) (nd := (fun S => [(∀ w1, S w1 → w1.cell? ⟨tb, 0, none⟩ = some (.pointer (some ⟨s, 0, none⟩))), (∀ w1, S w1 → w1.cell? ⟨s, 1, none⟩ = some (.slice (some ⟨b, 0, none⟩) fr.length cp))])) (fun _ => by kernel_rfl) ⟨(fun w1 h => cell_cells (h.own _ (inA ((hmem pre x hal hJx).1 _ (List.mem_cons_self ..))))), (fun w1 h => cell_cells (h.own _ (inA ((hmem pre x hal hJx).1 _ (List.mem_cons_of_mem _ (List.mem_cons_self ..)))))), trivial⟩ ?_
    refine Cfg.cond rfl (b := (decide ((k : Int) < (fr.length : Int)))) (by kernel_rfl) (fun c2r => ?_) (fun c2r => ?_)
    · have c2 : ((k : Int) < (fr.length : Int)) := (of_decide_eq_true c2r)
      -- cond 2 T: (decide ((k : Int) < (fr.length : Int)))
      refine Cfg.reg rfl [0, 1, 3, 4] [] (Γ' := [(4, [], .int .i64 0), (3, [], .int .i64 (k : Int)), (0, [], .func (.yield l) #[] #[]), (1, [], .pointer (some ⟨tb, 0, none⟩))]) (nd := (fun _ => [])) (fun _ => by kernel_rfl) trivial ?_
      refine Cfg.loop rfl (ι := Nat) (fun (n : Nat) => [(4, [], .int .i64 (n : Int)), (3, [], .int .i64 (k : Int)), (0, [], .func (.yield l) #[] #[]), (1, [], .pointer (some ⟨tb, 0, none⟩))]) (fun (n : Nat) => ([] ++ (A x ++ []))) (fun (n : Nat) => (k + n ≤ fr.length) ∧ (∀ j, j < n → fr.getD (k + j) false = true)) (fun (n : Nat) => fr.length - n) 0 ?_ (Conv.mk (by kernel_rfl)) (List.Sublist.refl _) ?_
      · exact ⟨by show k + 0 ≤ _; omega, fun j hj => absurd hj (Nat.not_lt_zero _)⟩
      · rintro n ⟨hkn, hrun⟩
        refine Cfg.reg rfl [0, 1, 3, 4, 33] [(0, false, none), (0, false, none), (0, false, none), (0, false, some (.pointer (some ⟨s, 0, none⟩))), (0, false, none), (0, false, none), (0, false, some (.slice (some ⟨b, 0, none⟩) fr.length cp)), (0, false, none), (0, false, none), (0, false, none), (0, false, some (.pointer (some ⟨s, 0, none⟩))), (0, false, none), (0, false, none), (0, false, some (.slice (some ⟨b, 0, none⟩) fr.length cp)), (0, false, none), (0, false, none), (0, false, none), (0, false, none), (0, false, some (.bool (fr.getD (k + n) false)))] (Γ' := [(33, [], .bool ((decide (((k : Int) + (n : Int)) < (fr.length : Int))) && (fr.getD (k + n) false))), (4, [], .int .i64 (n : Int)), (3, [], .int .i64 (k : Int)), (0, [], .func (.yield l) #[] #[]), (1, [], .pointer (some ⟨tb, 0, none⟩))]) (nd := (fun S => [((-9223372036854775808 : Int) ≤ ((k : Int) + (n : Int)) ∧ ((k : Int) + (n : Int)) ≤ 9223372036854775807), (∀ w1, S w1 → w1.cell? ⟨tb, 0, none⟩ = some (.pointer (some ⟨s, 0, none⟩))), (∀ w1, S w1 → w1.cell? ⟨s, 1, none⟩ = some (.slice (some ⟨b, 0, none⟩) fr.length cp)), ((.bool (decide (((k : Int) + (n : Int)) < (fr.length : Int))) : Value) = .bool true → (∀ w1, S w1 → w1.cell? ⟨tb, 0, none⟩ = some (.pointer (some ⟨s, 0, none⟩)))), ((.bool (decide (((k : Int) + (n : Int)) < (fr.length : Int))) : Value) = .bool true → (∀ w1, S w1 → w1.cell? ⟨s, 1, none⟩ = some (.slice (some ⟨b, 0, none⟩) fr.length cp))), ((.bool (decide (((k : Int) + (n : Int)) < (fr.length : Int))) : Value) = .bool true → ((-9223372036854775808 : Int) ≤ ((k : Int) + (n : Int)) ∧ ((k : Int) + (n : Int)) ≤ 9223372036854775807)), ((.bool (decide (((k : Int) + (n : Int)) < (fr.length : Int))) : Value) = .bool true → (0 ≤ ((k : Int) + (n : Int)) ∧ ((k : Int) + (n : Int)) < (fr.length : Int))), ((.bool (decide (((k : Int) + (n : Int)) < (fr.length : Int))) : Value) = .bool true → (∀ w1, S w1 → w1.cell? ⟨b, (k + n), none⟩ = some (.bool (fr.getD (k + n) false))))])) (fun _ => by kernel_rfl) ⟨(by omega), (fun w1 h => cell_cells (h.own _ (inA ((hmem pre x hal hJx).1 _ (List.mem_cons_self ..))))), (fun w1 h => cell_cells (h.own _ (inA ((hmem pre x hal hJx).1 _ (List.mem_cons_of_mem _ (List.mem_cons_self ..)))))), (fun g0 => have q0 : (((k : Int) + (n : Int)) < (fr.length : Int)) := (of_decide_eq_true (boolV g0)); (fun w1 h => cell_cells (h.own _ (inA ((hmem pre x hal hJx).1 _ (List.mem_cons_self ..)))))), (fun g0 => have q0 : (((k : Int) + (n : Int)) < (fr.length : Int)) := (of_decide_eq_true (boolV g0)); (fun w1 h => cell_cells (h.own _ (inA ((hmem pre x hal hJx).1 _ (List.mem_cons_of_mem _ (List.mem_cons_self ..))))))), (fun g0 => have q0 : (((k : Int) + (n : Int)) < (fr.length : Int)) := (of_decide_eq_true (boolV g0)); (by omega)), (fun g0 => have q0 : (((k : Int) + (n : Int)) < (fr.length : Int)) := (of_decide_eq_true (boolV g0)); (by omega)), (fun g0 => have q0 : (((k : Int) + (n : Int)) < (fr.length : Int)) := (of_decide_eq_true (boolV g0)); (fun w1 h => (cell_cells (h.own _ (inA ((hmem pre x hal hJx).1 _ (List.mem_cons_of_mem _ (List.mem_cons_of_mem _ (List.mem_cons_self ..))))))).trans (fr_cell (by omega)))), trivial⟩ ?_
        refine Cfg.cond rfl (b := ((decide (((k : Int) + (n : Int)) < (fr.length : Int))) && (fr.getD (k + n) false))) (by kernel_rfl) (fun c3r => ?_) (fun c3r => ?_)
        · have c3 : ((((k : Int) + (n : Int)) < (fr.length : Int)) ∧ ((fr.getD (k + n) false) = true)) := ⟨(of_decide_eq_true (andT1 c3r)), (andT2 c3r)⟩
          -- cond 3 T: ((decide (((k : Int) + (n : Int)) < (fr.length : Int))) && (fr.getD (k + n) false))
          refine Cfg.reg rfl [0, 1, 3, 4] [] (Γ' := [(4, [], .int .i64 ((n : Int) + 1)), (3, [], .int .i64 (k : Int)), (0, [], .func (.yield l) #[] #[]), (1, [], .pointer (some ⟨tb, 0, none⟩))]) (nd := (fun _ => [((-9223372036854775808 : Int) ≤ ((n : Int) + 1) ∧ ((n : Int) + 1) ≤ 9223372036854775807)])) (fun _ => by kernel_rfl) ⟨(by omega), trivial⟩ ?_
          refine Cfg.again rfl (n + 1) ⟨by show k + (n + 1) ≤ _; omega, fun j hj => by rcases Nat.lt_or_ge j n with h | h; exact hrun j h; rw [show j = n by omega]; exact c3.2⟩ (by show fr.length - (n + 1) < fr.length - n; omega) (Conv.mk (by kernel_rfl)) (List.Sublist.refl _)
        · have c3 : ((¬ (((k : Int) + (n : Int)) < (fr.length : Int))) ∨ ((fr.getD (k + n) false) = false)) := ((andF c3r).elim (fun h => Or.inl (of_decide_eq_false h)) (fun h => Or.inr h))
          -- cond 3 F: ((decide (((k : Int) + (n : Int)) < (fr.length : Int))) && (fr.getD (k + n) false))
          have hlen : rlen fr k = n := rlen_is hrun hkn (by rcases Nat.lt_or_ge (k + n) fr.length with h | h; right; have hc := c3r; simp at hc; simpa using hc (by omega); exact .inl h)
          refine Cfg.begL rfl ?_
          refine CfgL.pure 3 [] none (Γ' := [(38, [], .bool (decide ((n : Int) > (0 : Int)))), (37, [], .bool (decide ((n : Int) > (0 : Int)))), (36, [], .int .i64 (n : Int)), (33, [], .bool ((decide (((k : Int) + (n : Int)) < (fr.length : Int))) && (fr.getD (k + n) false))), (4, [], .int .i64 (n : Int)), (3, [], .int .i64 (k : Int)), (0, [], .func (.yield l) #[] #[]), (1, [], .pointer (some ⟨tb, 0, none⟩))]) (nd := (fun _ => [])) (by kernel_rfl) (fun _ => by kernel_rfl) trivial ?_
          by_cases c4 : (decide ((n : Int) > (0 : Int))) = true
          · have c4k : (decide ((n : Int) > (0 : Int))) = true := c4
            have c4q : ((n : Int) > (0 : Int)) := (of_decide_eq_true c4k)
            -- cond 4 T: (decide ((n : Int) > (0 : Int)))
            have hR2 : runsAt fr 0 = pre ++ (k, n) :: runsAt fr (k + (n + 1)) := by rw [hR, runsAt_some (by omega) hlen (by omega)]; rfl
            refine CfgL.known 38 (b := (decide ((n : Int) > (0 : Int)))) (by kernel_rfl) true c4k ?_
            refine CfgL.pure 9 [(1, false, none), (1, false, some (.pointer (some ⟨s, 0, none⟩))), (1, false, none), (1, false, none), (1, false, some (.int .i64 f)), (1, false, none), (1, false, none), (1, false, none), (1, false, some (.agg #[.int .i64 (f + (k : Int)), .int .i64 (n : Int)]))] none (Γ' := [(47, [], .agg #[.int .i64 (f + (k : Int)), .int .i64 (n : Int)]), (46, [], .int .i64 (n : Int)), (45, [], .int .i64 (f + (k : Int))), (44, [], .int .i64 (k : Int)), (43, [], .int .i64 f), (42, [], .pointer (some ⟨s, 0, none⟩)), (41, [], .pointer (some ⟨s, 0, none⟩)), (40, [], .pointer (some ⟨s, 0, none⟩)), (39, [], .func (.yield l) #[] #[]), (38, [], .bool true), (37, [], .bool (decide ((n : Int) > (0 : Int)))), (36, [], .int .i64 (n : Int)), (33, [], .bool ((decide (((k : Int) + (n : Int)) < (fr.length : Int))) && (fr.getD (k + n) false))), (4, [], .int .i64 (n : Int)), (3, [], .int .i64 (k : Int)), (0, [], .func (.yield l) #[] #[]), (1, [], .pointer (some ⟨tb, 0, none⟩))]) (nd := (fun S => [((.bool true : Value) = .bool true), ((.bool true : Value) = .bool true), (∀ w1, S w1 → w1.cell? ⟨tb, 0, none⟩ = some (.pointer (some ⟨s, 0, none⟩))), ((.bool true : Value) = .bool true), ((.bool true : Value) = .bool true), ((.bool true : Value) = .bool true), (∀ w1, S w1 → w1.cell? ⟨s, 0, none⟩ = some (.int .i64 f)), ((.bool true : Value) = .bool true), ((.bool true : Value) = .bool true), ((-9223372036854775808 : Int) ≤ (f + (k : Int)) ∧ (f + (k : Int)) ≤ 9223372036854775807), ((.bool true : Value) = .bool true), ((.bool true : Value) = .bool true), (∀ w1, S w1 → (Instr.build 27 #[(0, .int .i64 (f + (k : Int))), (1, .int .i64 (n : Int))]).run Try.prog w1 = .ok (.agg #[.int .i64 (f + (k : Int)), .int .i64 (n : Int)]) w1)])) (by kernel_rfl) (fun _ => by kernel_rfl) ⟨rfl, rfl, (fun w1 h => cell_cells (h.own _ (inA ((hmem pre x hal hJx).1 _ (List.mem_cons_self ..))))), rfl, rfl, rfl, (fun w1 h => cell_cells (h.own _ (inA ((hmem pre x hal hJx).1 _ (List.mem_cons_of_mem _ (List.mem_cons_self ..)))))), rfl, rfl, (by omega), rfl, rfl, (fun _ _ => by kernel_rfl), trivial⟩ ?_
            refine CfgL.effI (o := _) rfl (by kernel_rfl) (by kernel_rfl) (EffI.yield (ι := σ) (vs := [.agg #[.int .i64 (f + (k : Int)), .int .i64 (n : Int)]]) (fun _ => .bool (p (k, n))) (A x) (fun y => A y) (fun y => J (pre ++ [(k, n)]) y) [] [] rfl rfl (by kernel_rfl) (by kernel_rfl) hps.symm (hmem pre x hal hJx).2 (fun w1 hh hdn => hy pre x (k, n) _ hal hJx hR2 w1 hh hdn)) ?_
            rintro y hJy
            refine CfgL.pure 2 [(1, false, none)] (some [0, 1, 3, 4, 50]) (Γ' := [(50, [], .bool (!(p (k, n)))), (4, [], .int .i64 (n : Int)), (3, [], .int .i64 (k : Int)), (0, [], .func (.yield l) #[] #[]), (1, [], .pointer (some ⟨tb, 0, none⟩))]) (nd := (fun _ => [((.bool true : Value) = .bool true)])) (by kernel_rfl) (fun _ => by kernel_rfl) ⟨rfl, trivial⟩ ?_
            refine CfgL.done rfl ?_
            refine Cfg.cond rfl (b := (!(p (k, n)))) (by kernel_rfl) (fun c5r => ?_) (fun c5r => ?_)
            · have c5 : ((p (k, n)) = false) := (notT c5r)
              -- cond 5 T: (!(p (k, n)))
              refine Cfg.ret rfl (rs := []) rfl [] trivial (fun w1 hp => ?_)
              have hv : vis p (runsAt fr 0) = pre ++ [(k, n)] := by rw [hR2]; exact vis_stop hal (by simpa using c5r)
              rw [hv]
              have h3 : HP w ((A s0).map (·.1)) [] ([] ++ (A y ++ [])) w1 := hp
              rw [List.nil_append, List.append_nil] at h3
              exact ⟨y, hJy, rfl, _, h3⟩
            · have c5 : ((p (k, n)) = true) := (notF c5r)
              -- cond 5 F: (!(p (k, n)))
              refine Cfg.reg rfl [0, 1, 3] [] (Γ' := [(3, [], .int .i64 ((k : Int) + ((n : Int) + 1))), (0, [], .func (.yield l) #[] #[]), (1, [], .pointer (some ⟨tb, 0, none⟩))]) (nd := (fun _ => [((-9223372036854775808 : Int) ≤ ((n : Int) + 1) ∧ ((n : Int) + 1) ≤ 9223372036854775807), ((-9223372036854775808 : Int) ≤ ((k : Int) + ((n : Int) + 1)) ∧ ((k : Int) + ((n : Int) + 1)) ≤ 9223372036854775807)])) (fun _ => by kernel_rfl) ⟨(by omega), (by omega), trivial⟩ ?_
              refine Cfg.again rfl (k + (n + 1), pre ++ [(k, n)], y) ⟨by omega, by rw [hR2, List.append_assoc]; rfl, fun x hx => by rcases List.mem_append.1 hx with hx | hx; exact hal x hx; rw [List.mem_singleton.1 hx]; simpa using c5r, hJy⟩ (by show fr.length + 2 - (k + (n + 1)) < fr.length + 2 - k; omega) (Conv.mk (by kernel_rfl)) (List.Sublist.refl _)
          · have c4k : (decide ((n : Int) > (0 : Int))) = false := (by simpa using c4)
            have c4q : (¬ ((n : Int) > (0 : Int))) := (of_decide_eq_false c4k)
            -- cond 4 F: (decide ((n : Int) > (0 : Int)))
            refine CfgL.known 38 (b := (decide ((n : Int) > (0 : Int)))) (by kernel_rfl) false c4k ?_
            refine CfgL.pure 12 [(2, false, none), (2, false, none), (2, false, none), (2, false, none), (2, false, none), (2, false, none), (2, false, none), (2, false, none), (2, false, none), (2, false, none), (2, false, none)] (some [0, 1, 3, 4, 50]) (Γ' := [(50, [], .bool false), (4, [], .int .i64 (n : Int)), (3, [], .int .i64 (k : Int)), (0, [], .func (.yield l) #[] #[]), (1, [], .pointer (some ⟨tb, 0, none⟩))]) (nd := (fun _ => [((.bool false : Value) ≠ .bool true), ((.bool false : Value) ≠ .bool true), ((.bool false : Value) ≠ .bool true), ((.bool false : Value) ≠ .bool true), ((.bool false : Value) ≠ .bool true), ((.bool false : Value) ≠ .bool true), ((.bool false : Value) ≠ .bool true), ((.bool false : Value) ≠ .bool true), ((.bool false : Value) ≠ .bool true), ((.bool false : Value) ≠ .bool true), ((.bool false : Value) ≠ .bool true)])) (by kernel_rfl) (fun _ => by kernel_rfl) ⟨(by simp), (by simp), (by simp), (by simp), (by simp), (by simp), (by simp), (by simp), (by simp), (by simp), (by simp), trivial⟩ ?_
            refine CfgL.done rfl ?_
            refine Cfg.condF rfl (b := false) (by kernel_rfl) rfl ?_
            refine Cfg.reg rfl [0, 1, 3] [] (Γ' := [(3, [], .int .i64 ((k : Int) + ((n : Int) + 1))), (0, [], .func (.yield l) #[] #[]), (1, [], .pointer (some ⟨tb, 0, none⟩))]) (nd := (fun _ => [((-9223372036854775808 : Int) ≤ ((n : Int) + 1) ∧ ((n : Int) + 1) ≤ 9223372036854775807), ((-9223372036854775808 : Int) ≤ ((k : Int) + ((n : Int) + 1)) ∧ ((k : Int) + ((n : Int) + 1)) ≤ 9223372036854775807)])) (fun _ => by kernel_rfl) ⟨(by omega), (by omega), trivial⟩ ?_
            refine Cfg.again rfl (k + (n + 1), pre, x) ⟨by omega, by rw [hR, runsAt_none (by omega) hlen (by omega)]; rfl, hal, hJx⟩ (by show fr.length + 2 - (k + (n + 1)) < fr.length + 2 - k; omega) (Conv.mk (by kernel_rfl)) (List.Sublist.refl _)
    · have c2 : (¬ ((k : Int) < (fr.length : Int))) := (of_decide_eq_false c2r)
      -- cond 2 F: (decide ((k : Int) < (fr.length : Int)))
      refine Cfg.fin rfl (rs := []) rfl [] trivial (fun w1 hp => ?_)
      have hv : vis p (runsAt fr 0) = pre := by rw [hR, runsAt_end (by omega), List.append_nil, vis_all hal]
      rw [hv]
      have h3 : HP w ((A s0).map (·.1)) [] ([] ++ (A x ++ [])) w1 := hp
      rw [List.nil_append, List.append_nil] at h3
      exact ⟨x, hJx, rfl, _, h3⟩

theorem runsIt (tb s b cp : Nat) (jk : List Value) (f : Int) (fr : List Bool) (hf : -9223372036854775808 ≤ f ∧ f + fr.length ≤ 9223372036854775807) (hm : fr.length ≤ 4096) :
    IterSpec Try.prog 54 #[.pointer (some ⟨tb, 0, none⟩)] [(tb, Obj.cells #[.pointer (some ⟨s, 0, none⟩)] 24 (0, 0)), (s, Obj.cells #[.int .i64 f, .slice (some ⟨b, 0, none⟩) fr.length cp] 94 (0, 0)), (b, Obj.cells (rb fr ++ jk).toArray 4 (0, 0))] (runsAt fr 0) (fun (x : Nat × Nat) => Value.agg #[.int .i64 (f + (x.1 : Int)), .int .i64 (x.2 : Int)]) :=
  fun l dr fi T ps assign body σ A J s0 p w hps hJ hA hd hmem hy => runsIt0 l dr tb s b cp fi T ps assign body jk f fr σ A J s0 p w hf hm hps hJ hA hd hmem hy

end Go.Proofs.Ytmkefcjphdaoiaa
