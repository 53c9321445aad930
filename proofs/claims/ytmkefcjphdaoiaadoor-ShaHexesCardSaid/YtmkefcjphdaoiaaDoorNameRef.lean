/- name.Ref and the reference give one and the same Bool of a text. Condition: the text is no longer than any can be. -/
import Derived.Test.YtmkefcjphdaoiaaDoorRows
import Derived.Test.YtmkefcjphdaoiaaDoorK8
namespace Go.Proofs.YtmkefcjphdaoiaaDoor
open K
set_option linter.unusedVariables false

/-- What is asked of the byte at place k of a ref's name. -/
def okRef (s : ByteArray) (k : Nat) : Bool := decide ((97 ≤ sbyte s k ∧ sbyte s k ≤ 122) ∨ (k ≠ 0 ∧ ((48 ≤ sbyte s k ∧ sbyte s k ≤ 57) ∨ sbyte s k = 45 ∨ sbyte s k = 95)))
def refB (s : ByteArray) : Bool := decide (1 ≤ s.size ∧ s.size ≤ 24) && (List.range s.size).all (okRef s)

theorem all_yes {n : Nat} {f : Nat → Bool} (h : ∀ j, j < n → f j = true) : (List.range n).all f = true := by
  simp only [List.all_eq_true, List.mem_range]; exact h
theorem all_no {n k : Nat} {f : Nat → Bool} (hk : k < n) (h : f k = false) : (List.range n).all f = false := by
  cases hh : (List.range n).all f with
  | false => rfl
  | true =>
    have := List.all_eq_true.1 hh k (List.mem_range.2 hk)
    rw [h] at this; cases this
theorem upto_succ {f : Nat → Bool} {k : Nat} (h : ∀ j, j < k → f j = true) (hk : f k = true) : ∀ j, j < k + 1 → f j = true := by
  intro j hj
  rcases Nat.lt_or_ge j k with h1 | h1
  · exact h j h1
  · rw [show j = k by omega]; exact hk

end Go.Proofs.YtmkefcjphdaoiaaDoor
