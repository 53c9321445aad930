/- space: what the contracts say, in plain words. -/
import Derived.Test.YtmkefcjphdaoiaaSpD
namespace Go.Proofs.Ytmkefcjphdaoiaa
open K
set_option linter.unusedVariables false

def fill (nx : List Bool) (i : Nat) : Nat → Bool → List Bool
  | 0, _ => nx
  | c + 1, b => fill (nx.set i b) (i + 1) c b
theorem fill_len (b : Bool) : ∀ (c : Nat) (nx : List Bool) (i : Nat), (fill nx i c b).length = nx.length
  | 0, _, _ => rfl
  | c + 1, nx, i => by rw [fill, fill_len b c]; simp
theorem getD_set (nx : List Bool) (i j : Nat) (b : Bool) (h : i < nx.length) : (nx.set i b).getD j false = if j = i then b else nx.getD j false := by
  rw [List.getD_eq_getElem?_getD, List.getElem?_set, List.getD_eq_getElem?_getD]
  by_cases hij : i = j
  · subst hij; simp [h]
  · rw [if_neg hij, if_neg (fun e => hij e.symm)]
theorem fill_getD (b : Bool) : ∀ (c : Nat) (nx : List Bool) (i j : Nat), i + c ≤ nx.length → (fill nx i c b).getD j false = if i ≤ j ∧ j < i + c then b else nx.getD j false
  | 0, nx, i, j, _ => by rw [fill, if_neg (by omega)]
  | c + 1, nx, i, j, h => by
    rw [fill, fill_getD b c _ _ _ (by rw [List.length_set]; omega), getD_set _ _ _ _ (by omega)]
    by_cases h1 : i + 1 ≤ j ∧ j < i + 1 + c
    · rw [if_pos h1, if_pos (by omega)]
    · rw [if_neg h1]
      by_cases h2 : j = i
      · rw [if_pos h2, if_pos (by omega)]
      · rw [if_neg h2, if_neg (by omega)]
theorem loopF_ok (to : Bool) (k : Nat) : ∀ (c n : Nat) (nx : List Bool), (∀ j, n ≤ j → j < n + c → k + j < nx.length ∧ nx.getD (k + j) false = !to) → loopF to k c n nx = (0, fill nx (k + n) c to)
  | 0, n, nx, _ => rfl
  | c + 1, n, nx, h => by
    obtain ⟨h1, h2⟩ := h n (Nat.le_refl _) (by omega)
    rw [loopF, if_neg (by omega), h2, if_neg (by cases to <;> simp), loopF_ok to k c (n + 1) _ (fun j hj hj2 => ?_), fill, Nat.add_assoc]
    obtain ⟨h3, h4⟩ := h j (by omega) (by omega)
    refine ⟨by rw [List.length_set]; exact h3, ?_⟩
    rw [getD_set _ _ _ _ h1, if_neg (by omega), h4]
theorem turn_one {f : Int} {fr : List Bool} {to : Bool} {k n : Nat} (hn : 0 < n) (h : ∀ j, k ≤ j → j < k + n → j < fr.length ∧ fr.getD j false = !to) (l : List (Int × Int)) : turnF f fr.length to ((f + (k : Int), (n : Int)) :: l) fr = turnF f fr.length to l (fill fr k n to) := by
  have hk := (h k (Nat.le_refl _) (by omega)).1
  have hin : inP f fr.length (f + (k : Int)) = true := by unfold inP; simp; omega
  rw [turnF, if_neg (by simp only; omega), if_pos hin]
  have e : (f + (k : Int) - f).toNat = k := by omega
  simp only [e, Int.toNat_natCast]
  rw [loopF_ok to k n 0 fr (fun j _ hj => by have := h (k + j) (by omega) (by omega); exact this), if_pos rfl, Nat.add_zero]
theorem turn_single {f : Int} {fr : List Bool} {to : Bool} {k n : Nat} (hn : 0 < n) (h : ∀ j, k ≤ j → j < k + n → j < fr.length ∧ fr.getD j false = !to) : turnF f fr.length to [(f + (k : Int), (n : Int))] fr = (0, fill fr k n to) := by
  rw [turn_one hn h]; rfl
theorem turnR_single {f : Int} {fr : List Bool} {to : Bool} {k n : Nat} (hn : 0 < n) (h : ∀ j, k ≤ j → j < k + n → j < fr.length ∧ fr.getD j false = !to) : turnR f to [(f + (k : Int), (n : Int))] fr = fill fr k n to := by
  unfold turnR; rw [turn_single hn h, if_pos rfl]
theorem split_at (fr : List Bool) (k : Nat) : fr.drop k = (fr.drop k).takeWhile id ++ (fr.drop k).dropWhile id := (List.takeWhile_append_dropWhile ..).symm
theorem drop_getD (fr : List Bool) (k j : Nat) : (fr.drop k).getD j false = fr.getD (k + j) false := by simp [List.getD_eq_getElem?_getD]
theorem tw_true (l : List Bool) : ∀ b ∈ l.takeWhile id, b = true := by
  induction l with
  | nil => intro b hb; cases hb
  | cons a l ih =>
    intro b hb
    rw [List.takeWhile_cons] at hb
    cases a with
    | false => simp at hb
    | true =>
      simp only [id, if_true] at hb
      rcases List.mem_cons.1 hb with rfl | hb
      · rfl
      · exact ih b hb
theorem dw_false (l : List Bool) : l.dropWhile id = [] ∨ ∃ t, l.dropWhile id = false :: t := by
  induction l with
  | nil => exact .inl rfl
  | cons a l ih =>
    rw [List.dropWhile_cons]
    cases a with
    | false => exact .inr ⟨l, rfl⟩
    | true => exact ih
theorem rlen_true {fr : List Bool} {k j : Nat} (h : j < rlen fr k) : fr.getD (k + j) false = true := by
  rw [← drop_getD, split_at fr k, List.getD_eq_getElem?_getD, List.getElem?_append_left h, List.getElem?_eq_getElem h, Option.getD_some]
  exact tw_true _ _ (List.getElem_mem _)
theorem rlen_end (fr : List Bool) (k : Nat) : fr.getD (k + rlen fr k) false = false := by
  rw [← drop_getD, List.getD_eq_getElem?_getD]
  have h : ((fr.drop k).takeWhile id ++ (fr.drop k).dropWhile id)[rlen fr k]? = ((fr.drop k).dropWhile id)[0]? := by
    unfold rlen
    rw [List.getElem?_append_right (Nat.le_refl _), Nat.sub_self]
  rw [← split_at] at h
  rw [h]
  rcases dw_false (fr.drop k) with h1 | ⟨t, h1⟩ <;> rw [h1] <;> rfl
theorem runs_spec0 {fr : List Bool} : ∀ {i : Nat} {x : Nat × Nat}, (i = 0 ∨ fr.getD (i - 1) false = false) → x ∈ runsAt fr i → 0 < x.2 ∧ (∀ j, x.1 ≤ j → j < x.1 + x.2 → fr.getD j false = true) ∧ (x.1 = 0 ∨ fr.getD (x.1 - 1) false = false) := by
  intro k
  induction h : fr.length - k using Nat.strongRecOn generalizing k with
  | ind m ih =>
    subst h
    intro x h0 hx
    rw [runsAt] at hx
    split at hx
    · rename_i hk
      rcases List.mem_append.1 hx with hx | hx
      · split at hx
        · rename_i hp
          rw [List.mem_singleton.1 hx]
          refine ⟨hp, fun j h1 h2 => ?_, h0⟩
          simp only at h1 h2
          have := rlen_true (fr := fr) (k := k) (j := j - k) (by omega)
          rw [show k + (j - k) = j by omega] at this; exact this
        · cases hx
      · exact ih (fr.length - (k + rlen fr k + 1)) (by omega) rfl (.inr (by rw [Nat.add_sub_cancel]; exact rlen_end fr k)) hx
    · cases hx
theorem runs_spec {fr : List Bool} {x : Nat × Nat} (hx : x ∈ runsAt fr 0) : 0 < x.2 ∧ (∀ j, x.1 ≤ j → j < x.1 + x.2 → fr.getD j false = true) ∧ (x.1 = 0 ∨ fr.getD (x.1 - 1) false = false) := runs_spec0 (.inl rfl) hx
theorem suml_count (fr : List Bool) : ∀ k, suml (runsAt fr k) = (fr.drop k).count true := by
  intro k
  induction h : fr.length - k using Nat.strongRecOn generalizing k with
  | ind m ih =>
    subst h
    rw [runsAt]
    split
    · rename_i hk
      have h2 := ih (fr.length - (k + rlen fr k + 1)) (by omega) (k + rlen fr k + 1) rfl
      have h3 : ((fr.drop k).takeWhile id).count true = rlen fr k := by
        rw [List.count_eq_length.2 (fun b hb => (tw_true _ b hb).symm)]; rfl
      have h4 : ((fr.drop k).dropWhile id).count true = (fr.drop (k + rlen fr k + 1)).count true := by
        have h5 : (fr.drop k).drop (rlen fr k) = (fr.drop k).dropWhile id := by
          have e : (fr.drop k).drop (rlen fr k) = ((fr.drop k).takeWhile id ++ (fr.drop k).dropWhile id).drop (rlen fr k) := by rw [← split_at]
          rw [e, List.drop_append]
          unfold rlen
          rw [List.drop_length, Nat.sub_self, List.drop_zero]; rfl
        have h7 : fr.drop (k + rlen fr k + 1) = ((fr.drop k).drop (rlen fr k)).drop 1 := by rw [List.drop_drop, List.drop_drop, Nat.add_assoc]
        rw [h7, h5]
        rcases dw_false (fr.drop k) with h1 | ⟨t, h1⟩ <;> rw [h1]
        · rfl
        · simp
      have h6 : (fr.drop k).count true = rlen fr k + (fr.drop (k + rlen fr k + 1)).count true := by
        conv => lhs; rw [split_at fr k]
        rw [List.count_append, h3, h4]
      rw [suml_app, h2, h6]
      split
      · simp [suml]
      · have : rlen fr k = 0 := by omega
        rw [this]; simp [suml]
    · rw [List.drop_eq_nil_of_le (by omega)]; rfl
/-- What Take does where a run is long enough. -/
theorem take_ok {f : Int} {fr : List Bool} {n : Nat} {pre rest : List (Nat × Nat)} {k m : Nat} (hn : 0 < n) (hi : runsAt fr 0 = pre ++ (k, m) :: rest) (hp : ∀ y ∈ pre, tkP (n : Int) y = true) (ha : tkP (n : Int) (k, m) = false) :
    takeF f fr (n : Int) = (f + (k : Int), 0, fill fr k n false) ∧ n ≤ m ∧ k + m ≤ fr.length ∧ (∀ j, k ≤ j → j < k + m → fr.getD j false = true) ∧ (k = 0 ∨ fr.getD (k - 1) false = false) := by
  have hx : (k, m) ∈ runsAt fr 0 := by rw [hi]; simp
  obtain ⟨h1, h2, h3⟩ := runs_spec hx
  have h4 := runs_in hx
  have h5 : n ≤ m := by simpa [tkP] using ha
  simp only at h1 h2 h3 h4
  refine ⟨?_, h5, h4, h2, h3⟩
  rw [takeF_some (by omega) hi hp ha]
  unfold tkG
  have hc : ∀ j, k ≤ j → j < k + n → j < fr.length ∧ fr.getD j false = !false := fun j hj1 hj2 => ⟨by omega, h2 j hj1 (by omega)⟩
  simp only
  rw [turn_single hn hc, turnR_single hn hc]
end Go.Proofs.Ytmkefcjphdaoiaa
