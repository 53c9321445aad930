/- script: the document's words and numbers. -/
import Derived.Test.YtoopekjbikcebaaDoorScC
namespace Go.Proofs.YtoopekjbikcebaaDoor
open K
set_option linter.unusedVariables false

theorem sb_at (t : ByteArray) (i : Nat) : sbyte t (i : Int) = ((t.data.toList.getD i 0).toNat : Int) := rfl
theorem byteLe (c : UInt8) : c.toNat ≤ 255 := by have := c.toNat_lt; omega
theorem notB_iff {c : UInt8} : notB c = true ↔ (c.toNat : Int) ≠ 32 := by
  unfold notB
  rw [bne_iff_ne, ne_eq]
  constructor
  · intro h hx; exact h (UInt8.toNat_inj.1 (by rw [show (32 : UInt8).toNat = 32 from rfl]; omega))
  · intro h hx; rw [hx] at h; exact h rfl
theorem notB_no {c : UInt8} (h : (c.toNat : Int) = 32) : notB c = false := by
  cases hb : notB c with
  | false => rfl
  | true => exact absurd h (notB_iff.1 hb)
theorem isD_iff {c : UInt8} : isD c = true ↔ 48 ≤ (c.toNat : Int) ∧ (c.toNat : Int) ≤ 57 := by
  unfold isD
  rw [Bool.and_eq_true, decide_eq_true_eq, decide_eq_true_eq]; omega
theorem isD_no {c : UInt8} (h : ¬ (48 ≤ (c.toNat : Int) ∧ (c.toNat : Int) ≤ 57)) : isD c = false := by
  cases hb : isD c with
  | false => rfl
  | true => exact absurd (isD_iff.1 hb) h
theorem ext_tx (t : ByteArray) (i j : Nat) : t.extract i j = tx ((t.data.toList.drop i).take (j - i)) := by
  rw [← tx_back (t.extract i j)]
  unfold tx
  rw [Lib.extract_data]
theorem ext0 (t : ByteArray) (n : Nat) : t.extract 0 n = tx (t.data.toList.take n) := by rw [ext_tx, List.drop_zero, Nat.sub_zero]
theorem beq_tx (a b : List UInt8) : ((tx a).toList == (tx b).toList) = decide (a = b) := by
  rw [ByteArray.toList_eq, ByteArray.toList_eq, tx_list, tx_list]
  by_cases h : a = b
  · rw [h, beq_self_eq_true, decide_eq_true rfl]
  · rw [decide_eq_false h]; exact beq_eq_false_iff_ne.2 h
theorem kind_1 {w : List UInt8} (h : w = wdA1) : kindW w = 1 := by unfold kindW; rw [if_pos h]
theorem kind_2 {w : List UInt8} (h1 : ¬ w = wdA1) (h : w = wdA2) : kindW w = 2 := by unfold kindW; rw [if_neg h1, if_pos h]
theorem kind_3 {w : List UInt8} (h1 : ¬ w = wdA1) (h2 : ¬ w = wdA2) (h : w = wdA3) : kindW w = 3 := by unfold kindW; rw [if_neg h1, if_neg h2, if_pos h]
theorem kind_4 {w : List UInt8} (h1 : ¬ w = wdA1) (h2 : ¬ w = wdA2) (h3 : ¬ w = wdA3) (h : w = wdA4) : kindW w = 4 := by unfold kindW; rw [if_neg h1, if_neg h2, if_neg h3, if_pos h]
theorem kind_0 {w : List UInt8} (h1 : ¬ w = wdA1) (h2 : ¬ w = wdA2) (h3 : ¬ w = wdA3) (h : ¬ w = wdA4) : kindW w = 0 := by unfold kindW; rw [if_neg h1, if_neg h2, if_neg h3, if_neg h]
theorem good_big {d : List UInt8} {k : Nat} (h : 4294967295 < valF 0 (d.take k)) : goodD d = false := by
  have h1 : valF 0 (d.take k) ≤ valF 0 d := by
    conv => rhs; rw [← List.take_append_drop k d, valF_split]
    exact valF_le _ _
  unfold goodD
  rw [decide_eq_false (show ¬ valF 0 d ≤ 4294967295 by omega), Bool.and_false]
theorem num_prefix {q : List UInt8} {k : Nat} (hd : ∀ j, j < k → isD (q.getD j 0) = true) (hk : k ≤ q.length) : q.take k = (q.takeWhile isD).take k := by
  induction k generalizing q with
  | zero => simp
  | succ k ih =>
    cases q with
    | nil => simp
    | cons c q =>
      have hc : isD c = true := by simpa using hd 0 (by omega)
      rw [List.takeWhile_cons, if_pos hc, List.take_succ_cons, List.take_succ_cons, ih (fun j hj => by simpa using hd (j + 1) (by omega)) (by simpa using hk)]
theorem in_place {t : ByteArray} {a0 : Int} (h1 : ¬ a0 < 0) (h2 : ¬ a0 ≥ (t.size : Int)) (h3 : sbyte t a0 = 32) : ¬ (a0 < 0 ∨ (t.data.toList.length : Int) ≤ a0 ∨ t.data.toList.getD a0.toNat 0 ≠ 32) := by
  have hlen := ba_len t
  have h4 : ((t.data.toList.getD a0.toNat 0).toNat : Int) = 32 := h3
  rintro (h | h | h)
  · exact h1 h
  · omega
  · exact h (UInt8.toNat_inj.1 (by rw [show (32 : UInt8).toNat = 32 from rfl]; omega))
theorem out_place {t : ByteArray} {a0 : Int} (h : (a0 < 0 ∨ a0 ≥ (t.size : Int)) ∨ sbyte t a0 ≠ 32) : a0 < 0 ∨ (t.data.toList.length : Int) ≤ a0 ∨ t.data.toList.getD a0.toNat 0 ≠ 32 := by
  have hlen := ba_len t
  rcases h with (h | h) | h
  · exact .inl h
  · exact .inr (.inl (by omega))
  · exact .inr (.inr (fun hx => h (by unfold sbyte; rw [hx]; rfl)))
theorem numA_big {l : List UInt8} {at_ : Int} {q : List UInt8} {k : Nat} (hq : l.drop (at_.toNat + 1) = q) (hd : ∀ j, j < k → isD (q.getD j 0) = true) (hk : k ≤ q.length) (hv : 4294967295 < valF 0 (q.take k)) : numA l at_ = (0, -1) := by
  unfold numA
  split
  · rfl
  · rw [num_prefix hd hk] at hv
    rw [hq, good_big hv]; rfl
theorem good_sp {q : List UInt8} {k : Nat} (hk : k ≤ q.length) (h0 : k = 0 ∨ (1 < k ∧ (q.getD 0 0).toNat = 48)) : goodD (q.take k) = false := by
  rcases h0 with rfl | ⟨h1, h2⟩
  · rw [List.take_zero]; rfl
  · cases q with
    | nil => simp at hk; omega
    | cons c q =>
      have hc : c = 48 := UInt8.toNat_inj.1 h2
      obtain ⟨m, rfl⟩ : ∃ m, k = m + 1 := ⟨k - 1, by omega⟩
      unfold goodD
      rw [List.take_succ_cons, hc, List.length_cons, List.length_take]
      have : 1 < min m q.length + 1 := by simp only [List.length_cons] at hk; omega
      rw [decide_eq_true this]; rfl
theorem good_yes {q : List UInt8} {k : Nat} (hk : k ≤ q.length) (h0 : ¬ (k = 0 ∨ (1 < k ∧ (q.getD 0 0).toNat = 48))) (hv : valF 0 (q.take k) ≤ 4294967295) : goodD (q.take k) = true := by
  cases q with
  | nil => simp at hk; exact absurd (.inl hk) h0
  | cons c q =>
    obtain ⟨m, rfl⟩ : ∃ m, k = m + 1 := ⟨k - 1, by omega⟩
    unfold goodD
    rw [decide_eq_true hv, List.take_succ_cons, List.length_cons, List.length_take]
    by_cases hm : 1 < m + 1
    · have hc : (c == 48) = false := beq_eq_false_iff_ne.2 (fun h => h0 (.inr ⟨hm, by rw [h]; rfl⟩))
      rw [show (c :: q.take m).headD 0 = c from rfl, hc]; simp
    · have : m = 0 := by omega
      subst this
      simp

set_option maxRecDepth 100000 in
theorem rWord (t : ByteArray) (w : World) (hn : t.size ≤ maxLen) :
    Calls Tryd.prog 29 #[.string t] w fun e w' => e = .returned (.tuple #[.int .i64 (kdL t.data.toList), .int .i64 (wdL t.data.toList : Int)]) ∧ Ext [] w w' := by
  unfold maxLen at hn
  refine enter (vs := [.string t]) [] [] [] Tryd.func29 rfl (by kernel_rfl) (HP.start w) ?_
  refine Cfg.reg rfl [0] [] (Γ' := [(0, [], .string t)]) (nd := (fun _ => [])) (fun _ => by kernel_rfl) trivial ?_
  refine Cfg.reg rfl [0, 4] [] (Γ' := [(4, [], .int .i64 0), (0, [], .string t)]) (nd := (fun _ => [])) (fun _ => by kernel_rfl) trivial ?_
  refine Cfg.loop rfl (ι := Nat) (fun (n : Nat) => [(4, [], .int .i64 (n : Int)), (0, [], .string t)]) (fun (n : Nat) => []) (fun (n : Nat) => (n ≤ t.size) ∧ (∀ j, j < n → notB (t.data.toList.getD j 0) = true)) (fun (n : Nat) => t.size - n) 0 ?_ (Conv.mk (by kernel_rfl)) .slnil ?_
  · exact ⟨Nat.zero_le _, fun j h => absurd h (Nat.not_lt_zero j)⟩
  · rintro n ⟨hi, hp0⟩
    refine Cfg.reg rfl [0, 4, 14] [] (Γ' := [(14, [], .bool ((decide ((n : Int) < (t.size : Int))) && ((sbyte t (n : Int)) != (32 : Int)))), (4, [], .int .i64 (n : Int)), (0, [], .string t)]) (nd := (fun _ => [((.bool (decide ((n : Int) < (t.size : Int))) : Value) = .bool true → (0 ≤ (n : Int) ∧ (n : Int) < (t.size : Int)))])) (fun _ => by kernel_rfl) ⟨(fun g0 => have q0 : ((n : Int) < (t.size : Int)) := (of_decide_eq_true (boolV g0)); (by omega)), trivial⟩ ?_
    refine Cfg.cond rfl (b := ((decide ((n : Int) < (t.size : Int))) && ((sbyte t (n : Int)) != (32 : Int)))) (by kernel_rfl) (fun c1r => ?_) (fun c1r => ?_)
    · have c1 : (((n : Int) < (t.size : Int)) ∧ ((sbyte t (n : Int)) ≠ (32 : Int))) := ⟨(of_decide_eq_true (andT1 c1r)), (bne_iff_ne.1 (andT2 c1r))⟩
      refine Cfg.reg rfl [0, 4] [] (Γ' := [(4, [], .int .i64 ((n : Int) + 1)), (0, [], .string t)]) (nd := (fun _ => [((-9223372036854775808 : Int) ≤ ((n : Int) + 1) ∧ ((n : Int) + 1) ≤ 9223372036854775807)])) (fun _ => by kernel_rfl) ⟨(by omega), trivial⟩ ?_
      refine Cfg.again rfl (n + 1) ⟨by omega, fun j hj => by rcases Nat.lt_or_ge j n with h1 | h1; exact hp0 j h1; rw [show j = n by omega]; exact notB_iff.2 c1.2⟩ (by omega) (Conv.mk (by kernel_rfl)) .slnil
    · have c1 : ((¬ ((n : Int) < (t.size : Int))) ∨ ((sbyte t (n : Int)) = (32 : Int))) := ((andF c1r).elim (fun h => Or.inl (of_decide_eq_false h)) (fun h => Or.inr (bne_eq_false_iff_eq.1 h)))
      have hw := tw_is (p := notB) (l := t.data.toList) (n := n) hp0 (by rw [ba_len]; exact hi) (by rw [ba_len]; rcases c1 with h | h; exact .inl (by omega); exact .inr (notB_no h))
      have hwl : wdL t.data.toList = n := by unfold wdL; rw [hw.1, List.length_take, ba_len]; omega
      refine Cfg.reg rfl [4, 19] [] (Γ' := [(19, [], .string (t.extract 0 n)), (4, [], .int .i64 (n : Int))]) (nd := (fun _ => [(0 ≤ (n : Int)), (0 ≤ n ∧ n ≤ t.size)])) (fun _ => by kernel_rfl) ⟨(by omega), (by omega), trivial⟩ ?_
      refine Cfg.setG (Γ' := [(19, [], .string (tx (t.data.toList.takeWhile notB))), (4, [], .int .i64 (n : Int))]) (congrArg (fun (xq : ByteArray) => ([(19, [], .string xq), (4, [], .int .i64 (n : Int))] : Env)) (by rw [ext0, hw.1])) ?_
      refine Cfg.reg rfl [4, 19, 20] [] (Γ' := [(20, [], .bool ((tx (t.data.toList.takeWhile notB)).toList == (⟨#[118, 101, 114, 116, 101, 120]⟩ : ByteArray).toList)), (19, [], .string (tx (t.data.toList.takeWhile notB))), (4, [], .int .i64 (n : Int))]) (nd := (fun _ => [])) (fun _ => by kernel_rfl) trivial ?_
      refine Cfg.cond rfl (b := ((tx (t.data.toList.takeWhile notB)).toList == (⟨#[118, 101, 114, 116, 101, 120]⟩ : ByteArray).toList)) (by kernel_rfl) (fun c2r => ?_) (fun c2r => ?_)
      · have c2 : (((tx (t.data.toList.takeWhile notB)).toList == (⟨#[118, 101, 114, 116, 101, 120]⟩ : ByteArray).toList) = true) := c2r
        refine Cfg.reg rfl [2, 3] [] (Γ' := [(3, [], .int .i64 (n : Int)), (2, [], .int .i64 1)]) (nd := (fun _ => [])) (fun _ => by kernel_rfl) trivial ?_
        refine Cfg.ret rfl (rs := [.tmp 2, .tmp 3]) rfl [.int .i64 1, .int .i64 (n : Int)] ⟨by kernel_rfl, by kernel_rfl, trivial⟩ (fun w1 hp => ?_)
        have k1 : t.data.toList.takeWhile notB = wdA1 := by have := c2r; rw [show (⟨#[118, 101, 114, 116, 101, 120]⟩ : ByteArray) = tx wdA1 from rfl, beq_tx] at this; simpa using this
        have hkd : kdL t.data.toList = 1 := kind_1 k1
        exact ⟨by rw [hkd, hwl]; rfl, hp.ext⟩
      · have c2 : (((tx (t.data.toList.takeWhile notB)).toList == (⟨#[118, 101, 114, 116, 101, 120]⟩ : ByteArray).toList) = false) := c2r
        refine Cfg.reg rfl [4, 19, 23] [] (Γ' := [(23, [], .bool ((tx (t.data.toList.takeWhile notB)).toList == (⟨#[110, 111, 45, 118, 101, 114, 116, 101, 120]⟩ : ByteArray).toList)), (19, [], .string (tx (t.data.toList.takeWhile notB))), (4, [], .int .i64 (n : Int))]) (nd := (fun _ => [])) (fun _ => by kernel_rfl) trivial ?_
        refine Cfg.cond rfl (b := ((tx (t.data.toList.takeWhile notB)).toList == (⟨#[110, 111, 45, 118, 101, 114, 116, 101, 120]⟩ : ByteArray).toList)) (by kernel_rfl) (fun c3r => ?_) (fun c3r => ?_)
        · have c3 : (((tx (t.data.toList.takeWhile notB)).toList == (⟨#[110, 111, 45, 118, 101, 114, 116, 101, 120]⟩ : ByteArray).toList) = true) := c3r
          refine Cfg.reg rfl [2, 3] [] (Γ' := [(3, [], .int .i64 (n : Int)), (2, [], .int .i64 2)]) (nd := (fun _ => [])) (fun _ => by kernel_rfl) trivial ?_
          refine Cfg.ret rfl (rs := [.tmp 2, .tmp 3]) rfl [.int .i64 2, .int .i64 (n : Int)] ⟨by kernel_rfl, by kernel_rfl, trivial⟩ (fun w1 hp => ?_)
          have k1 : ¬ t.data.toList.takeWhile notB = wdA1 := by have := c2r; rw [show (⟨#[118, 101, 114, 116, 101, 120]⟩ : ByteArray) = tx wdA1 from rfl, beq_tx] at this; simpa using this
          have k2 : t.data.toList.takeWhile notB = wdA2 := by have := c3r; rw [show (⟨#[110, 111, 45, 118, 101, 114, 116, 101, 120]⟩ : ByteArray) = tx wdA2 from rfl, beq_tx] at this; simpa using this
          have hkd : kdL t.data.toList = 2 := kind_2 k1 k2
          exact ⟨by rw [hkd, hwl]; rfl, hp.ext⟩
        · have c3 : (((tx (t.data.toList.takeWhile notB)).toList == (⟨#[110, 111, 45, 118, 101, 114, 116, 101, 120]⟩ : ByteArray).toList) = false) := c3r
          refine Cfg.reg rfl [4, 19, 26] [] (Γ' := [(26, [], .bool ((tx (t.data.toList.takeWhile notB)).toList == (⟨#[101, 100, 103, 101]⟩ : ByteArray).toList)), (19, [], .string (tx (t.data.toList.takeWhile notB))), (4, [], .int .i64 (n : Int))]) (nd := (fun _ => [])) (fun _ => by kernel_rfl) trivial ?_
          refine Cfg.cond rfl (b := ((tx (t.data.toList.takeWhile notB)).toList == (⟨#[101, 100, 103, 101]⟩ : ByteArray).toList)) (by kernel_rfl) (fun c4r => ?_) (fun c4r => ?_)
          · have c4 : (((tx (t.data.toList.takeWhile notB)).toList == (⟨#[101, 100, 103, 101]⟩ : ByteArray).toList) = true) := c4r
            refine Cfg.reg rfl [2, 3] [] (Γ' := [(3, [], .int .i64 (n : Int)), (2, [], .int .i64 3)]) (nd := (fun _ => [])) (fun _ => by kernel_rfl) trivial ?_
            refine Cfg.ret rfl (rs := [.tmp 2, .tmp 3]) rfl [.int .i64 3, .int .i64 (n : Int)] ⟨by kernel_rfl, by kernel_rfl, trivial⟩ (fun w1 hp => ?_)
            have k1 : ¬ t.data.toList.takeWhile notB = wdA1 := by have := c2r; rw [show (⟨#[118, 101, 114, 116, 101, 120]⟩ : ByteArray) = tx wdA1 from rfl, beq_tx] at this; simpa using this
            have k2 : ¬ t.data.toList.takeWhile notB = wdA2 := by have := c3r; rw [show (⟨#[110, 111, 45, 118, 101, 114, 116, 101, 120]⟩ : ByteArray) = tx wdA2 from rfl, beq_tx] at this; simpa using this
            have k3 : t.data.toList.takeWhile notB = wdA3 := by have := c4r; rw [show (⟨#[101, 100, 103, 101]⟩ : ByteArray) = tx wdA3 from rfl, beq_tx] at this; simpa using this
            have hkd : kdL t.data.toList = 3 := kind_3 k1 k2 k3
            exact ⟨by rw [hkd, hwl]; rfl, hp.ext⟩
          · have c4 : (((tx (t.data.toList.takeWhile notB)).toList == (⟨#[101, 100, 103, 101]⟩ : ByteArray).toList) = false) := c4r
            refine Cfg.reg rfl [4, 29] [] (Γ' := [(29, [], .bool ((tx (t.data.toList.takeWhile notB)).toList == (⟨#[110, 111, 45, 101, 100, 103, 101]⟩ : ByteArray).toList)), (4, [], .int .i64 (n : Int))]) (nd := (fun _ => [])) (fun _ => by kernel_rfl) trivial ?_
            refine Cfg.cond rfl (b := ((tx (t.data.toList.takeWhile notB)).toList == (⟨#[110, 111, 45, 101, 100, 103, 101]⟩ : ByteArray).toList)) (by kernel_rfl) (fun c5r => ?_) (fun c5r => ?_)
            · have c5 : (((tx (t.data.toList.takeWhile notB)).toList == (⟨#[110, 111, 45, 101, 100, 103, 101]⟩ : ByteArray).toList) = true) := c5r
              refine Cfg.reg rfl [2, 3] [] (Γ' := [(3, [], .int .i64 (n : Int)), (2, [], .int .i64 4)]) (nd := (fun _ => [])) (fun _ => by kernel_rfl) trivial ?_
              refine Cfg.ret rfl (rs := [.tmp 2, .tmp 3]) rfl [.int .i64 4, .int .i64 (n : Int)] ⟨by kernel_rfl, by kernel_rfl, trivial⟩ (fun w1 hp => ?_)
              have k1 : ¬ t.data.toList.takeWhile notB = wdA1 := by have := c2r; rw [show (⟨#[118, 101, 114, 116, 101, 120]⟩ : ByteArray) = tx wdA1 from rfl, beq_tx] at this; simpa using this
              have k2 : ¬ t.data.toList.takeWhile notB = wdA2 := by have := c3r; rw [show (⟨#[110, 111, 45, 118, 101, 114, 116, 101, 120]⟩ : ByteArray) = tx wdA2 from rfl, beq_tx] at this; simpa using this
              have k3 : ¬ t.data.toList.takeWhile notB = wdA3 := by have := c4r; rw [show (⟨#[101, 100, 103, 101]⟩ : ByteArray) = tx wdA3 from rfl, beq_tx] at this; simpa using this
              have k4 : t.data.toList.takeWhile notB = wdA4 := by have := c5r; rw [show (⟨#[110, 111, 45, 101, 100, 103, 101]⟩ : ByteArray) = tx wdA4 from rfl, beq_tx] at this; simpa using this
              have hkd : kdL t.data.toList = 4 := kind_4 k1 k2 k3 k4
              exact ⟨by rw [hkd, hwl]; rfl, hp.ext⟩
            · have c5 : (((tx (t.data.toList.takeWhile notB)).toList == (⟨#[110, 111, 45, 101, 100, 103, 101]⟩ : ByteArray).toList) = false) := c5r
              refine Cfg.reg rfl [2, 3] [] (Γ' := [(3, [], .int .i64 (n : Int)), (2, [], .int .i64 0)]) (nd := (fun _ => [])) (fun _ => by kernel_rfl) trivial ?_
              refine Cfg.ret rfl (rs := [.tmp 2, .tmp 3]) rfl [.int .i64 0, .int .i64 (n : Int)] ⟨by kernel_rfl, by kernel_rfl, trivial⟩ (fun w1 hp => ?_)
              have k1 : ¬ t.data.toList.takeWhile notB = wdA1 := by have := c2r; rw [show (⟨#[118, 101, 114, 116, 101, 120]⟩ : ByteArray) = tx wdA1 from rfl, beq_tx] at this; simpa using this
              have k2 : ¬ t.data.toList.takeWhile notB = wdA2 := by have := c3r; rw [show (⟨#[110, 111, 45, 118, 101, 114, 116, 101, 120]⟩ : ByteArray) = tx wdA2 from rfl, beq_tx] at this; simpa using this
              have k3 : ¬ t.data.toList.takeWhile notB = wdA3 := by have := c4r; rw [show (⟨#[101, 100, 103, 101]⟩ : ByteArray) = tx wdA3 from rfl, beq_tx] at this; simpa using this
              have k4 : ¬ t.data.toList.takeWhile notB = wdA4 := by have := c5r; rw [show (⟨#[110, 111, 45, 101, 100, 103, 101]⟩ : ByteArray) = tx wdA4 from rfl, beq_tx] at this; simpa using this
              have hkd : kdL t.data.toList = 0 := kind_0 k1 k2 k3 k4
              exact ⟨by rw [hkd, hwl]; rfl, hp.ext⟩

set_option maxRecDepth 100000 in
theorem rNumber (t : ByteArray) (a0 : Int) (w : World) (hn : t.size ≤ maxLen) (ha : -1 ≤ a0 ∧ a0 ≤ (t.size : Int)) :
    Calls Tryd.prog 30 #[.string t, .int .i64 a0] w fun e w' => e = .returned (.tuple #[.int .u32 ((numA t.data.toList a0).1 : Int), .int .i64 (numA t.data.toList a0).2]) ∧ Ext [] w w' := by
  unfold maxLen at hn
  have hlen := ba_len t
  refine enter (vs := [.string t, .int .i64 a0]) [] [] [] Tryd.func30 rfl (by kernel_rfl) (HP.start w) ?_
  refine Cfg.reg rfl [0, 1] [] (Γ' := [(0, [], .string t), (1, [], .int .i64 a0)]) (nd := (fun _ => [])) (fun _ => by kernel_rfl) trivial ?_
  refine Cfg.reg rfl [0, 1, 21] [] (Γ' := [(21, [], .bool (((decide (a0 < (0 : Int))) || (decide (a0 ≥ (t.size : Int)))) || ((sbyte t a0) != (32 : Int)))), (0, [], .string t), (1, [], .int .i64 a0)]) (nd := (fun _ => [((.bool ((decide (a0 < (0 : Int))) || (decide (a0 ≥ (t.size : Int)))) : Value) = .bool false → (0 ≤ a0 ∧ a0 < (t.size : Int)))])) (fun _ => by kernel_rfl) ⟨(fun g0 => have q0 : ((¬ (a0 < (0 : Int))) ∧ (¬ (a0 ≥ (t.size : Int)))) := ⟨(of_decide_eq_false (orF1 (boolV g0))), (of_decide_eq_false (orF2 (boolV g0)))⟩; (by omega)), trivial⟩ ?_
  refine Cfg.cond rfl (b := (((decide (a0 < (0 : Int))) || (decide (a0 ≥ (t.size : Int)))) || ((sbyte t a0) != (32 : Int)))) (by kernel_rfl) (fun c1r => ?_) (fun c1r => ?_)
  · have c1 : (((a0 < (0 : Int)) ∨ (a0 ≥ (t.size : Int))) ∨ ((sbyte t a0) ≠ (32 : Int))) := ((orT c1r).elim (fun h => Or.inl ((orT h).elim (fun h => Or.inl (of_decide_eq_true h)) (fun h => Or.inr (of_decide_eq_true h)))) (fun h => Or.inr (bne_iff_ne.1 h)))
    have hA : numA t.data.toList a0 = (0, -1) := numA_out (out_place c1)
    refine Cfg.reg rfl [4, 5] [] (Γ' := [(5, [], .int .i64 (-1)), (4, [], .int .u32 0)]) (nd := (fun _ => [])) (fun _ => by kernel_rfl) trivial ?_
    refine Cfg.ret rfl (rs := [.tmp 4, .tmp 5]) rfl [.int .u32 0, .int .i64 (-1)] ⟨by kernel_rfl, by kernel_rfl, trivial⟩ (fun w1 hp => ?_)
    exact ⟨by rw [hA]; rfl, hp.ext⟩
  · have c1 : (((¬ (a0 < (0 : Int))) ∧ (¬ (a0 ≥ (t.size : Int)))) ∧ ((sbyte t a0) = (32 : Int))) := ⟨⟨(of_decide_eq_false (orF1 (orF1 c1r))), (of_decide_eq_false (orF2 (orF1 c1r)))⟩, (bne_eq_false_iff_eq.1 (orF2 c1r))⟩
    have hin := in_place c1.1.1 c1.1.2 c1.2
    obtain ⟨q, hq⟩ : ∃ q, (t.data.toList.drop (a0.toNat + 1)) = q := ⟨_, rfl⟩
    have hql : q.length = t.size - (a0.toNat + 1) := by rw [← hq, List.length_drop, hlen]
    have hqa : ∀ j : Nat, sbyte t (a0 + 1 + (j : Int)) = ((q.getD j 0).toNat : Int) := by
      intro j
      unfold sbyte
      rw [← hq, List.getD_eq_getElem?_getD, List.getD_eq_getElem?_getD, List.getElem?_drop, show (a0 + 1 + (j : Int)).toNat = a0.toNat + 1 + j by omega]
    refine Cfg.reg rfl [0, 1, 6] [] (Γ' := [(6, [], .int .u64 0), (0, [], .string t), (1, [], .int .i64 a0)]) (nd := (fun _ => [])) (fun _ => by kernel_rfl) trivial ?_
    refine Cfg.reg rfl [0, 6, 7] [] (Γ' := [(7, [], .int .i64 (a0 + 1)), (6, [], .int .u64 0), (0, [], .string t)]) (nd := (fun _ => [((-9223372036854775808 : Int) ≤ (a0 + 1) ∧ (a0 + 1) ≤ 9223372036854775807)])) (fun _ => by kernel_rfl) ⟨(by omega), trivial⟩ ?_
    refine Cfg.reg rfl [0, 1, 6, 7] [] (Γ' := [(1, [], .int .i64 (a0 + 1)), (7, [], .int .i64 (a0 + 1)), (6, [], .int .u64 0), (0, [], .string t)]) (nd := (fun _ => [])) (fun _ => by kernel_rfl) trivial ?_
    refine Cfg.setG (Γ' := [(1, [], .int .i64 (a0 + 1)), (7, [], .int .i64 (a0 + 1)), (6, [], .int .u64 ((valF 0 (q.take 0)) : Int)), (0, [], .string t)]) (congrArg (fun (xq : Int) => ([(1, [], .int .i64 (a0 + 1)), (7, [], .int .i64 (a0 + 1)), (6, [], .int .u64 xq), (0, [], .string t)] : Env)) (by rw [List.take_zero]; rfl)) ?_
    refine Cfg.setG (Γ' := [(1, [], .int .i64 ((a0 + 1) + (0 : Int))), (7, [], .int .i64 (a0 + 1)), (6, [], .int .u64 ((valF 0 (q.take 0)) : Int)), (0, [], .string t)]) (congrArg (fun (xq : Int) => ([(1, [], .int .i64 xq), (7, [], .int .i64 (a0 + 1)), (6, [], .int .u64 ((valF 0 (q.take 0)) : Int)), (0, [], .string t)] : Env)) (by omega)) ?_
    refine Cfg.loop rfl (ι := Nat) (fun (k : Nat) => [(1, [], .int .i64 ((a0 + 1) + (k : Int))), (7, [], .int .i64 (a0 + 1)), (6, [], .int .u64 ((valF 0 (q.take k)) : Int)), (0, [], .string t)]) (fun (k : Nat) => []) (fun (k : Nat) => (k ≤ q.length) ∧ (∀ j, j < k → isD (q.getD j 0) = true) ∧ (valF 0 (q.take k) ≤ 4294967295)) (fun (k : Nat) => t.size - k) 0 ?_ (Conv.mk (by kernel_rfl)) .slnil ?_
    · exact ⟨Nat.zero_le _, (fun j h => absurd h (Nat.not_lt_zero j)), by rw [List.take_zero]; exact Nat.zero_le _⟩
    · rintro k ⟨hk, hd, hv⟩
      refine Cfg.reg rfl [0, 1, 6, 7, 40] [] (Γ' := [(40, [], .bool (((decide (((a0 + 1) + (k : Int)) < (t.size : Int))) && (decide ((sbyte t ((a0 + 1) + (k : Int))) ≥ (48 : Int)))) && (decide ((sbyte t ((a0 + 1) + (k : Int))) ≤ (57 : Int))))), (1, [], .int .i64 ((a0 + 1) + (k : Int))), (7, [], .int .i64 (a0 + 1)), (6, [], .int .u64 ((valF 0 (q.take k)) : Int)), (0, [], .string t)]) (nd := (fun _ => [((.bool (decide (((a0 + 1) + (k : Int)) < (t.size : Int))) : Value) = .bool true → (0 ≤ ((a0 + 1) + (k : Int)) ∧ ((a0 + 1) + (k : Int)) < (t.size : Int))), ((.bool ((decide (((a0 + 1) + (k : Int)) < (t.size : Int))) && (decide ((sbyte t ((a0 + 1) + (k : Int))) ≥ (48 : Int)))) : Value) = .bool true → (0 ≤ ((a0 + 1) + (k : Int)) ∧ ((a0 + 1) + (k : Int)) < (t.size : Int)))])) (fun _ => by kernel_rfl) ⟨(fun g0 => have q0 : (((a0 + 1) + (k : Int)) < (t.size : Int)) := (of_decide_eq_true (boolV g0)); (by omega)), (fun g0 => have q0 : ((((a0 + 1) + (k : Int)) < (t.size : Int)) ∧ ((sbyte t ((a0 + 1) + (k : Int))) ≥ (48 : Int))) := ⟨(of_decide_eq_true (andT1 (boolV g0))), (of_decide_eq_true (andT2 (boolV g0)))⟩; (by omega)), trivial⟩ ?_
      refine Cfg.cond rfl (b := (((decide (((a0 + 1) + (k : Int)) < (t.size : Int))) && (decide ((sbyte t ((a0 + 1) + (k : Int))) ≥ (48 : Int)))) && (decide ((sbyte t ((a0 + 1) + (k : Int))) ≤ (57 : Int))))) (by kernel_rfl) (fun c2r => ?_) (fun c2r => ?_)
      · have c2 : (((((a0 + 1) + (k : Int)) < (t.size : Int)) ∧ ((sbyte t ((a0 + 1) + (k : Int))) ≥ (48 : Int))) ∧ ((sbyte t ((a0 + 1) + (k : Int))) ≤ (57 : Int))) := ⟨⟨(of_decide_eq_true (andT1 (andT1 c2r))), (of_decide_eq_true (andT2 (andT1 c2r)))⟩, (of_decide_eq_true (andT2 c2r))⟩
        rw [hqa k] at c2
        have hvt := valF_take (q := q) (k := k) (by omega)
        have hbl := byteLe (q.getD k 0)
        have hdk : ∀ j, j < k + 1 → isD (q.getD j 0) = true := fun j hj => by rcases Nat.lt_or_ge j k with h1 | h1; exact hd j h1; rw [show j = k by omega]; exact isD_iff.2 ⟨c2.1.2, c2.2⟩
        refine Cfg.reg rfl [0, 1, 6, 7] [] (Γ' := [(6, [], .int .u64 ((((((valF 0 (q.take k)) : Int) * 10) % 18446744073709551616) + (((sbyte t ((a0 + 1) + (k : Int))) - 48) % 256)) % 18446744073709551616)), (1, [], .int .i64 ((a0 + 1) + (k : Int))), (7, [], .int .i64 (a0 + 1)), (0, [], .string t)]) (nd := (fun _ => [(0 ≤ ((a0 + 1) + (k : Int)) ∧ ((a0 + 1) + (k : Int)) < (t.size : Int)), ((0 : Int) ≤ (((sbyte t ((a0 + 1) + (k : Int))) - 48) % 256) ∧ (((sbyte t ((a0 + 1) + (k : Int))) - 48) % 256) ≤ 18446744073709551615)])) (fun _ => by kernel_rfl) ⟨(by omega), (by omega), trivial⟩ ?_
        refine Cfg.reg rfl [0, 1, 6, 7, 50] [] (Γ' := [(50, [], .bool (decide (((((((valF 0 (q.take k)) : Int) * 10) % 18446744073709551616) + (((sbyte t ((a0 + 1) + (k : Int))) - 48) % 256)) % 18446744073709551616) > (4294967295 : Int)))), (6, [], .int .u64 ((((((valF 0 (q.take k)) : Int) * 10) % 18446744073709551616) + (((sbyte t ((a0 + 1) + (k : Int))) - 48) % 256)) % 18446744073709551616)), (1, [], .int .i64 ((a0 + 1) + (k : Int))), (7, [], .int .i64 (a0 + 1)), (0, [], .string t)]) (nd := (fun _ => [])) (fun _ => by kernel_rfl) trivial ?_
        refine Cfg.cond rfl (b := (decide (((((((valF 0 (q.take k)) : Int) * 10) % 18446744073709551616) + (((sbyte t ((a0 + 1) + (k : Int))) - 48) % 256)) % 18446744073709551616) > (4294967295 : Int)))) (by kernel_rfl) (fun c3r => ?_) (fun c3r => ?_)
        · have c3 : (((((((valF 0 (q.take k)) : Int) * 10) % 18446744073709551616) + (((sbyte t ((a0 + 1) + (k : Int))) - 48) % 256)) % 18446744073709551616) > (4294967295 : Int)) := (of_decide_eq_true c3r)
          rw [hqa k] at c3
          have hA : numA t.data.toList a0 = (0, -1) := numA_big hq hdk (by omega) (by omega)
          refine Cfg.reg rfl [4, 5] [] (Γ' := [(5, [], .int .i64 (-1)), (4, [], .int .u32 0)]) (nd := (fun _ => [])) (fun _ => by kernel_rfl) trivial ?_
          refine Cfg.ret rfl (rs := [.tmp 4, .tmp 5]) rfl [.int .u32 0, .int .i64 (-1)] ⟨by kernel_rfl, by kernel_rfl, trivial⟩ (fun w1 hp => ?_)
          exact ⟨by rw [hA]; rfl, hp.ext⟩
        · have c3 : (¬ (((((((valF 0 (q.take k)) : Int) * 10) % 18446744073709551616) + (((sbyte t ((a0 + 1) + (k : Int))) - 48) % 256)) % 18446744073709551616) > (4294967295 : Int))) := (of_decide_eq_false c3r)
          rw [hqa k] at c3
          refine Cfg.reg rfl [0, 1, 6, 7] [] (Γ' := [(1, [], .int .i64 (((a0 + 1) + (k : Int)) + 1)), (6, [], .int .u64 ((((((valF 0 (q.take k)) : Int) * 10) % 18446744073709551616) + (((sbyte t ((a0 + 1) + (k : Int))) - 48) % 256)) % 18446744073709551616)), (7, [], .int .i64 (a0 + 1)), (0, [], .string t)]) (nd := (fun _ => [((-9223372036854775808 : Int) ≤ (((a0 + 1) + (k : Int)) + 1) ∧ (((a0 + 1) + (k : Int)) + 1) ≤ 9223372036854775807)])) (fun _ => by kernel_rfl) ⟨(by omega), trivial⟩ ?_
          refine Cfg.setG (Γ' := [(1, [], .int .i64 (((a0 + 1) + (k : Int)) + 1)), (6, [], .int .u64 (((valF 0 (q.take (k + 1))) : Nat) : Int)), (7, [], .int .i64 (a0 + 1)), (0, [], .string t)]) (congrArg (fun (xq : Int) => ([(1, [], .int .i64 (((a0 + 1) + (k : Int)) + 1)), (6, [], .int .u64 xq), (7, [], .int .i64 (a0 + 1)), (0, [], .string t)] : Env)) (by rw [hqa k]; omega)) ?_
          refine Cfg.setG (Γ' := [(1, [], .int .i64 ((a0 + 1) + (((k + 1) : Nat) : Int))), (6, [], .int .u64 (((valF 0 (q.take (k + 1))) : Nat) : Int)), (7, [], .int .i64 (a0 + 1)), (0, [], .string t)]) (congrArg (fun (xq : Int) => ([(1, [], .int .i64 xq), (6, [], .int .u64 (((valF 0 (q.take (k + 1))) : Nat) : Int)), (7, [], .int .i64 (a0 + 1)), (0, [], .string t)] : Env)) (by omega)) ?_
          refine Cfg.again rfl (k + 1) ⟨by omega, hdk, by omega⟩ (by omega) (Conv.mk (by kernel_rfl)) .slnil
      · have c2 : (((¬ (((a0 + 1) + (k : Int)) < (t.size : Int))) ∨ (¬ ((sbyte t ((a0 + 1) + (k : Int))) ≥ (48 : Int)))) ∨ (¬ ((sbyte t ((a0 + 1) + (k : Int))) ≤ (57 : Int)))) := ((andF c2r).elim (fun h => Or.inl ((andF h).elim (fun h => Or.inl (of_decide_eq_false h)) (fun h => Or.inr (of_decide_eq_false h)))) (fun h => Or.inr (of_decide_eq_false h)))
        have hw : q.takeWhile isD = q.take k := (tw_is (p := isD) (l := q) (n := k) hd (by omega) (by rcases c2 with h | h; rcases h with h | h; exact .inl (by omega); rw [hqa k] at h; exact .inr (isD_no (by omega)); rw [hqa k] at h; exact .inr (isD_no (by omega)))).1
        have hA := numA_in hin hq hw (by omega)
        refine Cfg.reg rfl [1, 6, 67] [] (Γ' := [(67, [], .bool ((((a0 + 1) + (k : Int)) == (a0 + 1)) || ((decide ((((a0 + 1) + (k : Int)) - (a0 + 1)) > (1 : Int))) && ((sbyte t (a0 + 1)) == (48 : Int))))), (1, [], .int .i64 ((a0 + 1) + (k : Int))), (6, [], .int .u64 ((valF 0 (q.take k)) : Int))]) (nd := (fun _ => [((.bool (((a0 + 1) + (k : Int)) == (a0 + 1)) : Value) = .bool false → ((-9223372036854775808 : Int) ≤ (((a0 + 1) + (k : Int)) - (a0 + 1)) ∧ (((a0 + 1) + (k : Int)) - (a0 + 1)) ≤ 9223372036854775807)), ((.bool (decide ((((a0 + 1) + (k : Int)) - (a0 + 1)) > (1 : Int))) : Value) = .bool true → ((.bool (((a0 + 1) + (k : Int)) == (a0 + 1)) : Value) = .bool false → (0 ≤ (a0 + 1) ∧ (a0 + 1) < (t.size : Int))))])) (fun _ => by kernel_rfl) ⟨(fun g0 => have q0 : (((a0 + 1) + (k : Int)) ≠ (a0 + 1)) := (beq_eq_false_iff_ne.1 (boolV g0)); (by omega)), (fun g0 g1 => have q0 : ((((a0 + 1) + (k : Int)) - (a0 + 1)) > (1 : Int)) := (of_decide_eq_true (boolV g0)); have q1 : (((a0 + 1) + (k : Int)) ≠ (a0 + 1)) := (beq_eq_false_iff_ne.1 (boolV g1)); (by omega)), trivial⟩ ?_
        refine Cfg.cond rfl (b := ((((a0 + 1) + (k : Int)) == (a0 + 1)) || ((decide ((((a0 + 1) + (k : Int)) - (a0 + 1)) > (1 : Int))) && ((sbyte t (a0 + 1)) == (48 : Int))))) (by kernel_rfl) (fun c4r => ?_) (fun c4r => ?_)
        · have c4 : ((((a0 + 1) + (k : Int)) = (a0 + 1)) ∨ (((((a0 + 1) + (k : Int)) - (a0 + 1)) > (1 : Int)) ∧ ((sbyte t (a0 + 1)) = (48 : Int)))) := ((orT c4r).elim (fun h => Or.inl (beq_iff_eq.1 h)) (fun h => Or.inr ⟨(of_decide_eq_true (andT1 h)), (beq_iff_eq.1 (andT2 h))⟩))
          refine Cfg.reg rfl [4, 5] [] (Γ' := [(5, [], .int .i64 (-1)), (4, [], .int .u32 0)]) (nd := (fun _ => [])) (fun _ => by kernel_rfl) trivial ?_
          refine Cfg.ret rfl (rs := [.tmp 4, .tmp 5]) rfl [.int .u32 0, .int .i64 (-1)] ⟨by kernel_rfl, by kernel_rfl, trivial⟩ (fun w1 hp => ?_)
          have hz : k = 0 ∨ (1 < k ∧ (q.getD 0 0).toNat = 48) := by rcases c4 with h | h; exact .inl (by omega); have h9 := hqa 0; have h8 := h.2; exact .inr ⟨by omega, by rw [show a0 + 1 + ((0 : Nat) : Int) = a0 + 1 by omega] at h9; omega⟩
          rw [good_sp (by omega) hz] at hA
          exact ⟨by rw [hA]; rfl, hp.ext⟩
        · have c4 : ((((a0 + 1) + (k : Int)) ≠ (a0 + 1)) ∧ ((¬ ((((a0 + 1) + (k : Int)) - (a0 + 1)) > (1 : Int))) ∨ ((sbyte t (a0 + 1)) ≠ (48 : Int)))) := ⟨(beq_eq_false_iff_ne.1 (orF1 c4r)), ((andF (orF2 c4r)).elim (fun h => Or.inl (of_decide_eq_false h)) (fun h => Or.inr (beq_eq_false_iff_ne.1 h)))⟩
          refine Cfg.reg rfl [4, 5] [] (Γ' := [(5, [], .int .i64 ((a0 + 1) + (k : Int))), (4, [], .int .u32 (((valF 0 (q.take k)) : Int) % 4294967296))]) (nd := (fun _ => [])) (fun _ => by kernel_rfl) trivial ?_
          refine Cfg.ret rfl (rs := [.tmp 4, .tmp 5]) rfl [.int .u32 (((valF 0 (q.take k)) : Int) % 4294967296), .int .i64 ((a0 + 1) + (k : Int))] ⟨by kernel_rfl, by kernel_rfl, trivial⟩ (fun w1 hp => ?_)
          have hz : ¬ (k = 0 ∨ (1 < k ∧ (q.getD 0 0).toNat = 48)) := by have h9 := hqa 0; rw [show a0 + 1 + ((0 : Nat) : Int) = a0 + 1 by omega] at h9; omega
          rw [good_yes (by omega) hz hv, if_pos rfl] at hA
          exact ⟨by rw [hA, show ((valF 0 (List.take k q) : Nat) : Int) % 4294967296 = ((valF 0 (List.take k q) : Nat) : Int) by omega]; rfl, hp.ext⟩

end Go.Proofs.YtoopekjbikcebaaDoor
