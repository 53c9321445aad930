/- name.Ref and the reference give one and the same Bool of a text. Condition: the text is no longer than any can be. -/
import Derived.Test.YtejgpniaoccpoaaRows
import Derived.Test.YtejgpniaoccpoaaK8
namespace Go.Proofs.Ytejgpniaoccpoaa
open K
set_option linter.unusedVariables false

/-- What is asked of the byte at place k of a ref's name. -/
def okRef (s : ByteArray) (k : Nat) : Bool := decide ((97 ≤ sbyte s k ∧ sbyte s k ≤ 122) ∨ (k ≠ 0 ∧ ((48 ≤ sbyte s k ∧ sbyte s k ≤ 57) ∨ sbyte s k = 45 ∨ sbyte s k = 95)))
def refB (s : ByteArray) : Bool := decide (1 ≤ s.size ∧ s.size ≤ 24) && (List.range s.size).all (okRef s)

theorem all_yes {n : Nat} {f : Nat → Bool} (h : ∀ j, j < n → f j = true) : (List.range n).all f = true := by
  simp only [List.all_eq_true, List.mem_range]; exact h
theorem all_no {n k : Nat} {f : Nat → Bool} (hk : k < n) (h : f k = false) : (List.range n).all f = false := by
  cases hh : (List.range n).all f with
  | false => rfl
  | true =>
    have := List.all_eq_true.1 hh k (List.mem_range.2 hk)
    rw [h] at this; cases this
theorem upto_succ {f : Nat → Bool} {k : Nat} (h : ∀ j, j < k → f j = true) (hk : f k = true) : ∀ j, j < k + 1 → f j = true := by
  intro j hj
  rcases Nat.lt_or_ge j k with h1 | h1
  · exact h j h1
  · rw [show j = k by omega]; exact hk

set_option maxRecDepth 100000 in
theorem nameRef (s : ByteArray) (w : World) (hs : s.size ≤ maxLen) :
    Calls Try.prog 35 #[.string s] w fun e w' => e = .returned (.bool (refB s)) ∧ Ext [] w w' := by
  unfold maxLen at hs
  refine enter (vs := [.string s]) [] [] [] Try.func35 rfl (by kernel_rfl) (HP.start w) ?_
  refine Cfg.reg rfl [0] [] (Γ' := [(0, [], .string s)]) (nd := (fun _ => [])) (fun _ => by kernel_rfl) trivial ?_
  refine Cfg.reg rfl [0, 14] [] (Γ' := [(14, [], .bool ((decide ((s.size : Int) < (1 : Int))) || (decide ((s.size : Int) > (24 : Int))))), (0, [], .string s)]) (nd := (fun _ => [])) (fun _ => by kernel_rfl) trivial ?_
  refine Cfg.cond rfl (b := ((decide ((s.size : Int) < (1 : Int))) || (decide ((s.size : Int) > (24 : Int))))) (by kernel_rfl) (fun c1r => ?_) (fun c1r => ?_)
  · have c1 : (((s.size : Int) < (1 : Int)) ∨ ((s.size : Int) > (24 : Int))) := ((orT c1r).elim (fun h => Or.inl (of_decide_eq_true h)) (fun h => Or.inr (of_decide_eq_true h)))
    refine Cfg.reg rfl [2] [] (Γ' := [(2, [], .bool false)]) (nd := (fun _ => [])) (fun _ => by kernel_rfl) trivial ?_
    refine Cfg.ret rfl (rs := [.tmp 2]) rfl [.bool false] ⟨by kernel_rfl, trivial⟩ (fun w1 hp => ?_)
    exact ⟨by rw [show refB s = false by unfold refB; rw [decide_eq_false (by omega), Bool.false_and]]; rfl, hp.ext⟩
  · have c1 : ((¬ ((s.size : Int) < (1 : Int))) ∧ (¬ ((s.size : Int) > (24 : Int)))) := ⟨(of_decide_eq_false (orF1 c1r)), (of_decide_eq_false (orF2 c1r))⟩
    refine Cfg.reg rfl [0, 16, 17] [] (Γ' := [(17, [], .int .i64 0), (16, [], .int .i64 (s.size : Int)), (0, [], .string s)]) (nd := (fun _ => [])) (fun _ => by kernel_rfl) trivial ?_
    refine Cfg.loop rfl (ι := Nat) (fun (k : Nat) => [(17, [], .int .i64 (k : Int)), (16, [], .int .i64 (s.size : Int)), (0, [], .string s)]) (fun (k : Nat) => []) (fun (k : Nat) => (k ≤ s.size) ∧ (∀ j, j < k → okRef s j = true)) (fun (k : Nat) => s.size - k) 0 ?_ (Conv.mk (by kernel_rfl)) .slnil ?_
    · exact ⟨Nat.zero_le _, fun j h => absurd h (Nat.not_lt_zero j)⟩
    · rintro k ⟨hk, hall⟩
      refine Cfg.reg rfl [0, 16, 17, 18] [] (Γ' := [(18, [], .bool (decide ((k : Int) < (s.size : Int)))), (17, [], .int .i64 (k : Int)), (16, [], .int .i64 (s.size : Int)), (0, [], .string s)]) (nd := (fun _ => [])) (fun _ => by kernel_rfl) trivial ?_
      refine Cfg.cond rfl (b := (decide ((k : Int) < (s.size : Int)))) (by kernel_rfl) (fun c2r => ?_) (fun c2r => ?_)
      · have c2 : ((k : Int) < (s.size : Int)) := (of_decide_eq_true c2r)
        refine Cfg.reg rfl [0, 3, 16, 17] [] (Γ' := [(3, [], .int .i64 (k : Int)), (17, [], .int .i64 (k : Int)), (16, [], .int .i64 (s.size : Int)), (0, [], .string s)]) (nd := (fun _ => [])) (fun _ => by kernel_rfl) trivial ?_
        refine Cfg.reg rfl [0, 3, 4, 16, 17] [] (Γ' := [(4, [], .int .u8 (sbyte s (k : Int))), (3, [], .int .i64 (k : Int)), (17, [], .int .i64 (k : Int)), (16, [], .int .i64 (s.size : Int)), (0, [], .string s)]) (nd := (fun _ => [(0 ≤ (k : Int) ∧ (k : Int) < (s.size : Int))])) (fun _ => by kernel_rfl) ⟨(by omega), trivial⟩ ?_
        refine Cfg.reg rfl [0, 3, 4, 5, 16, 17] [] (Γ' := [(5, [], .bool ((decide ((sbyte s (k : Int)) ≥ (97 : Int))) && (decide ((sbyte s (k : Int)) ≤ (122 : Int))))), (4, [], .int .u8 (sbyte s (k : Int))), (3, [], .int .i64 (k : Int)), (17, [], .int .i64 (k : Int)), (16, [], .int .i64 (s.size : Int)), (0, [], .string s)]) (nd := (fun _ => [])) (fun _ => by kernel_rfl) trivial ?_
        refine Cfg.reg rfl [0, 3, 5, 6, 16, 17] [] (Γ' := [(6, [], .bool ((((decide ((sbyte s (k : Int)) ≥ (48 : Int))) && (decide ((sbyte s (k : Int)) ≤ (57 : Int)))) || ((sbyte s (k : Int)) == (45 : Int))) || ((sbyte s (k : Int)) == (95 : Int)))), (5, [], .bool ((decide ((sbyte s (k : Int)) ≥ (97 : Int))) && (decide ((sbyte s (k : Int)) ≤ (122 : Int))))), (3, [], .int .i64 (k : Int)), (17, [], .int .i64 (k : Int)), (16, [], .int .i64 (s.size : Int)), (0, [], .string s)]) (nd := (fun _ => [])) (fun _ => by kernel_rfl) trivial ?_
        refine Cfg.reg rfl [0, 16, 17, 52] [] (Γ' := [(52, [], .bool ((!((decide ((sbyte s (k : Int)) ≥ (97 : Int))) && (decide ((sbyte s (k : Int)) ≤ (122 : Int))))) && (((k : Int) == (0 : Int)) || (!((((decide ((sbyte s (k : Int)) ≥ (48 : Int))) && (decide ((sbyte s (k : Int)) ≤ (57 : Int)))) || ((sbyte s (k : Int)) == (45 : Int))) || ((sbyte s (k : Int)) == (95 : Int))))))), (17, [], .int .i64 (k : Int)), (16, [], .int .i64 (s.size : Int)), (0, [], .string s)]) (nd := (fun _ => [])) (fun _ => by kernel_rfl) trivial ?_
        refine Cfg.cond rfl (b := ((!((decide ((sbyte s (k : Int)) ≥ (97 : Int))) && (decide ((sbyte s (k : Int)) ≤ (122 : Int))))) && (((k : Int) == (0 : Int)) || (!((((decide ((sbyte s (k : Int)) ≥ (48 : Int))) && (decide ((sbyte s (k : Int)) ≤ (57 : Int)))) || ((sbyte s (k : Int)) == (45 : Int))) || ((sbyte s (k : Int)) == (95 : Int))))))) (by kernel_rfl) (fun c3r => ?_) (fun c3r => ?_)
        · have c3 : (((¬ ((sbyte s (k : Int)) ≥ (97 : Int))) ∨ (¬ ((sbyte s (k : Int)) ≤ (122 : Int)))) ∧ (((k : Int) = (0 : Int)) ∨ ((((¬ ((sbyte s (k : Int)) ≥ (48 : Int))) ∨ (¬ ((sbyte s (k : Int)) ≤ (57 : Int)))) ∧ ((sbyte s (k : Int)) ≠ (45 : Int))) ∧ ((sbyte s (k : Int)) ≠ (95 : Int))))) := ⟨((andF (notT (andT1 c3r))).elim (fun h => Or.inl (of_decide_eq_false h)) (fun h => Or.inr (of_decide_eq_false h))), ((orT (andT2 c3r)).elim (fun h => Or.inl (beq_iff_eq.1 h)) (fun h => Or.inr ⟨⟨((andF (orF1 (orF1 (notT h)))).elim (fun h => Or.inl (of_decide_eq_false h)) (fun h => Or.inr (of_decide_eq_false h))), (beq_eq_false_iff_ne.1 (orF2 (orF1 (notT h))))⟩, (beq_eq_false_iff_ne.1 (orF2 (notT h)))⟩))⟩
          refine Cfg.reg rfl [2] [] (Γ' := [(2, [], .bool false)]) (nd := (fun _ => [])) (fun _ => by kernel_rfl) trivial ?_
          refine Cfg.ret rfl (rs := [.tmp 2]) rfl [.bool false] ⟨by kernel_rfl, trivial⟩ (fun w1 hp => ?_)
          have hok : okRef s k = false := decide_eq_false (by omega)
          exact ⟨by rw [show refB s = false by unfold refB; rw [all_no (by omega) hok, Bool.and_false]]; rfl, hp.ext⟩
        · have c3 : ((((sbyte s (k : Int)) ≥ (97 : Int)) ∧ ((sbyte s (k : Int)) ≤ (122 : Int))) ∨ (((k : Int) ≠ (0 : Int)) ∧ (((((sbyte s (k : Int)) ≥ (48 : Int)) ∧ ((sbyte s (k : Int)) ≤ (57 : Int))) ∨ ((sbyte s (k : Int)) = (45 : Int))) ∨ ((sbyte s (k : Int)) = (95 : Int))))) := ((andF c3r).elim (fun h => Or.inl ⟨(of_decide_eq_true (andT1 (notF h))), (of_decide_eq_true (andT2 (notF h)))⟩) (fun h => Or.inr ⟨(beq_eq_false_iff_ne.1 (orF1 h)), ((orT (notF (orF2 h))).elim (fun h => Or.inl ((orT h).elim (fun h => Or.inl ⟨(of_decide_eq_true (andT1 h)), (of_decide_eq_true (andT2 h))⟩) (fun h => Or.inr (beq_iff_eq.1 h)))) (fun h => Or.inr (beq_iff_eq.1 h)))⟩))
          refine Cfg.reg rfl [0, 16, 17] [] (Γ' := [(17, [], .int .i64 ((k : Int) + 1)), (16, [], .int .i64 (s.size : Int)), (0, [], .string s)]) (nd := (fun _ => [((-9223372036854775808 : Int) ≤ ((k : Int) + 1) ∧ ((k : Int) + 1) ≤ 9223372036854775807)])) (fun _ => by kernel_rfl) ⟨(by omega), trivial⟩ ?_
          have hok : okRef s k = true := decide_eq_true (by omega)
          refine Cfg.again rfl (k + 1) ⟨by omega, upto_succ hall hok⟩ (by omega) (Conv.mk (by kernel_rfl)) .slnil
      · have c2 : (¬ ((k : Int) < (s.size : Int))) := (of_decide_eq_false c2r)
        refine Cfg.reg rfl [2] [] (Γ' := [(2, [], .bool true)]) (nd := (fun _ => [])) (fun _ => by kernel_rfl) trivial ?_
        refine Cfg.ret rfl (rs := [.tmp 2]) rfl [.bool true] ⟨by kernel_rfl, trivial⟩ (fun w1 hp => ?_)
        exact ⟨by rw [show refB s = true by rw [show k = s.size by omega] at hall; unfold refB; rw [decide_eq_true (by omega), all_yes hall]; rfl]; rfl, hp.ext⟩

set_option maxRecDepth 100000 in
theorem refRef (s : ByteArray) (w : World) (hs : s.size ≤ maxLen) :
    Calls Try.prog 50 #[.string s] w fun e w' => e = .returned (.bool (refB s)) ∧ Ext [] w w' := by
  unfold maxLen at hs
  refine enter (vs := [.string s]) [] [] [] Try.func50 rfl (by kernel_rfl) (HP.start w) ?_
  refine Cfg.reg rfl [0] [] (Γ' := [(0, [], .string s)]) (nd := (fun _ => [])) (fun _ => by kernel_rfl) trivial ?_
  refine Cfg.reg rfl [0, 13] [] (Γ' := [(13, [], .bool ((decide ((s.size : Int) < (1 : Int))) || (decide ((s.size : Int) > (24 : Int))))), (0, [], .string s)]) (nd := (fun _ => [])) (fun _ => by kernel_rfl) trivial ?_
  refine Cfg.cond rfl (b := ((decide ((s.size : Int) < (1 : Int))) || (decide ((s.size : Int) > (24 : Int))))) (by kernel_rfl) (fun c1r => ?_) (fun c1r => ?_)
  · have c1 : (((s.size : Int) < (1 : Int)) ∨ ((s.size : Int) > (24 : Int))) := ((orT c1r).elim (fun h => Or.inl (of_decide_eq_true h)) (fun h => Or.inr (of_decide_eq_true h)))
    refine Cfg.reg rfl [2] [] (Γ' := [(2, [], .bool false)]) (nd := (fun _ => [])) (fun _ => by kernel_rfl) trivial ?_
    refine Cfg.ret rfl (rs := [.tmp 2]) rfl [.bool false] ⟨by kernel_rfl, trivial⟩ (fun w1 hp => ?_)
    exact ⟨by rw [show refB s = false by unfold refB; rw [decide_eq_false (by omega), Bool.false_and]]; rfl, hp.ext⟩
  · have c1 : ((¬ ((s.size : Int) < (1 : Int))) ∧ (¬ ((s.size : Int) > (24 : Int)))) := ⟨(of_decide_eq_false (orF1 c1r)), (of_decide_eq_false (orF2 c1r))⟩
    refine Cfg.reg rfl [0, 3] [] (Γ' := [(3, [], .int .i64 0), (0, [], .string s)]) (nd := (fun _ => [])) (fun _ => by kernel_rfl) trivial ?_
    refine Cfg.loop rfl (ι := Nat) (fun (k : Nat) => [(3, [], .int .i64 (k : Int)), (0, [], .string s)]) (fun (k : Nat) => []) (fun (k : Nat) => (k ≤ s.size) ∧ (∀ j, j < k → okRef s j = true)) (fun (k : Nat) => s.size - k) 0 ?_ (Conv.mk (by kernel_rfl)) .slnil ?_
    · exact ⟨Nat.zero_le _, fun j h => absurd h (Nat.not_lt_zero j)⟩
    · rintro k ⟨hk, hall⟩
      refine Cfg.reg rfl [0, 3, 17] [] (Γ' := [(17, [], .bool (decide ((k : Int) < (s.size : Int)))), (3, [], .int .i64 (k : Int)), (0, [], .string s)]) (nd := (fun _ => [])) (fun _ => by kernel_rfl) trivial ?_
      refine Cfg.cond rfl (b := (decide ((k : Int) < (s.size : Int)))) (by kernel_rfl) (fun c2r => ?_) (fun c2r => ?_)
      · have c2 : ((k : Int) < (s.size : Int)) := (of_decide_eq_true c2r)
        refine Cfg.reg rfl [0, 3, 4] [] (Γ' := [(4, [], .int .u8 (sbyte s (k : Int))), (3, [], .int .i64 (k : Int)), (0, [], .string s)]) (nd := (fun _ => [(0 ≤ (k : Int) ∧ (k : Int) < (s.size : Int))])) (fun _ => by kernel_rfl) ⟨(by omega), trivial⟩ ?_
        refine Cfg.reg rfl [0, 3, 4, 5] [] (Γ' := [(5, [], .bool ((decide ((sbyte s (k : Int)) ≥ (97 : Int))) && (decide ((sbyte s (k : Int)) ≤ (122 : Int))))), (4, [], .int .u8 (sbyte s (k : Int))), (3, [], .int .i64 (k : Int)), (0, [], .string s)]) (nd := (fun _ => [])) (fun _ => by kernel_rfl) trivial ?_
        refine Cfg.reg rfl [0, 3, 4, 5, 34] [] (Γ' := [(34, [], .bool (((k : Int) == (0 : Int)) && (!((decide ((sbyte s (k : Int)) ≥ (97 : Int))) && (decide ((sbyte s (k : Int)) ≤ (122 : Int))))))), (5, [], .bool ((decide ((sbyte s (k : Int)) ≥ (97 : Int))) && (decide ((sbyte s (k : Int)) ≤ (122 : Int))))), (4, [], .int .u8 (sbyte s (k : Int))), (3, [], .int .i64 (k : Int)), (0, [], .string s)]) (nd := (fun _ => [])) (fun _ => by kernel_rfl) trivial ?_
        refine Cfg.cond rfl (b := (((k : Int) == (0 : Int)) && (!((decide ((sbyte s (k : Int)) ≥ (97 : Int))) && (decide ((sbyte s (k : Int)) ≤ (122 : Int))))))) (by kernel_rfl) (fun c3r => ?_) (fun c3r => ?_)
        · have c3 : (((k : Int) = (0 : Int)) ∧ ((¬ ((sbyte s (k : Int)) ≥ (97 : Int))) ∨ (¬ ((sbyte s (k : Int)) ≤ (122 : Int))))) := ⟨(beq_iff_eq.1 (andT1 c3r)), ((andF (notT (andT2 c3r))).elim (fun h => Or.inl (of_decide_eq_false h)) (fun h => Or.inr (of_decide_eq_false h)))⟩
          refine Cfg.reg rfl [2] [] (Γ' := [(2, [], .bool false)]) (nd := (fun _ => [])) (fun _ => by kernel_rfl) trivial ?_
          refine Cfg.ret rfl (rs := [.tmp 2]) rfl [.bool false] ⟨by kernel_rfl, trivial⟩ (fun w1 hp => ?_)
          have hok : okRef s k = false := decide_eq_false (by omega)
          exact ⟨by rw [show refB s = false by unfold refB; rw [all_no (by omega) hok, Bool.and_false]]; rfl, hp.ext⟩
        · have c3 : (((k : Int) ≠ (0 : Int)) ∨ (((sbyte s (k : Int)) ≥ (97 : Int)) ∧ ((sbyte s (k : Int)) ≤ (122 : Int)))) := ((andF c3r).elim (fun h => Or.inl (beq_eq_false_iff_ne.1 h)) (fun h => Or.inr ⟨(of_decide_eq_true (andT1 (notF h))), (of_decide_eq_true (andT2 (notF h)))⟩))
          refine Cfg.reg rfl [0, 3, 53] [] (Γ' := [(53, [], .bool ((((!((decide ((sbyte s (k : Int)) ≥ (97 : Int))) && (decide ((sbyte s (k : Int)) ≤ (122 : Int))))) && (!((decide ((sbyte s (k : Int)) ≥ (48 : Int))) && (decide ((sbyte s (k : Int)) ≤ (57 : Int)))))) && ((sbyte s (k : Int)) != (45 : Int))) && ((sbyte s (k : Int)) != (95 : Int)))), (3, [], .int .i64 (k : Int)), (0, [], .string s)]) (nd := (fun _ => [])) (fun _ => by kernel_rfl) trivial ?_
          refine Cfg.cond rfl (b := ((((!((decide ((sbyte s (k : Int)) ≥ (97 : Int))) && (decide ((sbyte s (k : Int)) ≤ (122 : Int))))) && (!((decide ((sbyte s (k : Int)) ≥ (48 : Int))) && (decide ((sbyte s (k : Int)) ≤ (57 : Int)))))) && ((sbyte s (k : Int)) != (45 : Int))) && ((sbyte s (k : Int)) != (95 : Int)))) (by kernel_rfl) (fun c4r => ?_) (fun c4r => ?_)
          · have c4 : (((((¬ ((sbyte s (k : Int)) ≥ (97 : Int))) ∨ (¬ ((sbyte s (k : Int)) ≤ (122 : Int)))) ∧ ((¬ ((sbyte s (k : Int)) ≥ (48 : Int))) ∨ (¬ ((sbyte s (k : Int)) ≤ (57 : Int))))) ∧ ((sbyte s (k : Int)) ≠ (45 : Int))) ∧ ((sbyte s (k : Int)) ≠ (95 : Int))) := ⟨⟨⟨((andF (notT (andT1 (andT1 (andT1 c4r))))).elim (fun h => Or.inl (of_decide_eq_false h)) (fun h => Or.inr (of_decide_eq_false h))), ((andF (notT (andT2 (andT1 (andT1 c4r))))).elim (fun h => Or.inl (of_decide_eq_false h)) (fun h => Or.inr (of_decide_eq_false h)))⟩, (bne_iff_ne.1 (andT2 (andT1 c4r)))⟩, (bne_iff_ne.1 (andT2 c4r))⟩
            refine Cfg.reg rfl [2] [] (Γ' := [(2, [], .bool false)]) (nd := (fun _ => [])) (fun _ => by kernel_rfl) trivial ?_
            refine Cfg.ret rfl (rs := [.tmp 2]) rfl [.bool false] ⟨by kernel_rfl, trivial⟩ (fun w1 hp => ?_)
            have hok : okRef s k = false := decide_eq_false (by omega)
            exact ⟨by rw [show refB s = false by unfold refB; rw [all_no (by omega) hok, Bool.and_false]]; rfl, hp.ext⟩
          · have c4 : ((((((sbyte s (k : Int)) ≥ (97 : Int)) ∧ ((sbyte s (k : Int)) ≤ (122 : Int))) ∨ (((sbyte s (k : Int)) ≥ (48 : Int)) ∧ ((sbyte s (k : Int)) ≤ (57 : Int)))) ∨ ((sbyte s (k : Int)) = (45 : Int))) ∨ ((sbyte s (k : Int)) = (95 : Int))) := ((andF c4r).elim (fun h => Or.inl ((andF h).elim (fun h => Or.inl ((andF h).elim (fun h => Or.inl ⟨(of_decide_eq_true (andT1 (notF h))), (of_decide_eq_true (andT2 (notF h)))⟩) (fun h => Or.inr ⟨(of_decide_eq_true (andT1 (notF h))), (of_decide_eq_true (andT2 (notF h)))⟩))) (fun h => Or.inr (bne_eq_false_iff_eq.1 h)))) (fun h => Or.inr (bne_eq_false_iff_eq.1 h)))
            refine Cfg.reg rfl [0, 3] [] (Γ' := [(3, [], .int .i64 ((k : Int) + 1)), (0, [], .string s)]) (nd := (fun _ => [((-9223372036854775808 : Int) ≤ ((k : Int) + 1) ∧ ((k : Int) + 1) ≤ 9223372036854775807)])) (fun _ => by kernel_rfl) ⟨(by omega), trivial⟩ ?_
            have hok : okRef s k = true := decide_eq_true (by omega)
            refine Cfg.again rfl (k + 1) ⟨by omega, upto_succ hall hok⟩ (by omega) (Conv.mk (by kernel_rfl)) .slnil
      · have c2 : (¬ ((k : Int) < (s.size : Int))) := (of_decide_eq_false c2r)
        refine Cfg.reg rfl [2] [] (Γ' := [(2, [], .bool true)]) (nd := (fun _ => [])) (fun _ => by kernel_rfl) trivial ?_
        refine Cfg.ret rfl (rs := [.tmp 2]) rfl [.bool true] ⟨by kernel_rfl, trivial⟩ (fun w1 hp => ?_)
        exact ⟨by rw [show refB s = true by rw [show k = s.size by omega] at hall; unfold refB; rw [decide_eq_true (by omega), all_yes hall]; rfl]; rfl, hp.ext⟩

end Go.Proofs.Ytejgpniaoccpoaa
