/- wire: what is taken without error lay there as it would be laid. -/
import Derived.Test.YtejgpniaoccpoaaWire4
namespace Go.Proofs.Ytejgpniaoccpoaa
open K
set_option linter.unusedVariables false

theorem rowsF_succ {β : Type} {tk : IN → β × IN} {k : Nat} {z : IN} {acc : List β} (h : ¬ (tk z).2.er ≠ 0) : rowsF tk (k + 1) z acc = rowsF tk k (tk z).2 (acc ++ [(tk z).1]) := if_neg h
theorem rowsF_fail {β : Type} {tk : IN → β × IN} {k : Nat} {z : IN} {acc : List β} (h : (tk z).2.er ≠ 0) : rowsF tk (k + 1) z acc = ([], (tk z).2) := if_pos h
/-- A row that is taken: how many, and each. -/
def rowsT {β : Type} (tk : IN → β × IN) (z : IN) (most : Int) : List β × IN := rowsF tk (boundF z most 6).1 (boundF z most 6).2 []
/-- The first k elements were taken without error. -/
structure RowAt {β : Type} (tk : IN → β × IN) (n : Nat) (z0 : IN) (i : Nat) (z : IN) (acc : List β) : Prop where
  le : i ≤ n
  len : acc.length = i
  rest : rowsF tk (n - i) z acc = rowsF tk n z0 []
theorem RowAt.start {β : Type} (tk : IN → β × IN) (n : Nat) (z0 : IN) : RowAt tk n z0 0 z0 [] := ⟨Nat.zero_le _, rfl, by rw [Nat.sub_zero]⟩
theorem RowAt.next {β : Type} {tk : IN → β × IN} {n i : Nat} {z0 z : IN} {acc : List β} (h : RowAt tk n z0 i z acc) (hi : i < n) (he : (tk z).2.er = 0) : RowAt tk n z0 (i + 1) (tk z).2 (acc ++ [(tk z).1]) :=
  ⟨hi, by rw [List.length_append, h.len]; rfl, by rw [← h.rest, show n - i = (n - (i + 1)) + 1 by omega, rowsF_succ (by omega)]⟩
theorem RowAt.fail {β : Type} {tk : IN → β × IN} {n i : Nat} {z0 z : IN} {acc : List β} (h : RowAt tk n z0 i z acc) (hi : i < n) (he : (tk z).2.er ≠ 0) : rowsF tk n z0 [] = ([], (tk z).2) := by
  rw [← h.rest, show n - i = (n - (i + 1)) + 1 by omega, rowsF_fail he]
theorem RowAt.done {β : Type} {tk : IN → β × IN} {n : Nat} {z0 z : IN} {acc : List β} (h : RowAt tk n z0 n z acc) : rowsF tk n z0 [] = (acc, z) := by
  rw [← h.rest, Nat.sub_self]; rfl
theorem eq_toList (a b : ByteArray) (h : a = b) : (!(a.toList == b.toList)) = false := by rw [h, beq_self_eq_true]; rfl

theorem pow256 (k : Nat) : 256 ^ (k + 1) = 256 ^ k * 256 := Nat.pow_succ ..
theorem val_be (n : Nat) : ∀ (k m : Nat), (m + 1) * 256 ^ k ≤ 18446744073709551616 → (be n k).foldl vf m = m * 256 ^ k + n % 256 ^ k
  | 0, m, _ => by simp [be, Nat.mod_one]
  | k + 1, m, h => by
    have hk : 0 < 256 ^ k := Nat.pow_pos (by decide)
    have hb : (UInt8.ofNat (n / 256 ^ k)).toNat = n / 256 ^ k % 256 := by simp
    have hlt : n / 256 ^ k % 256 < 256 := Nat.mod_lt _ (by decide)
    rw [pow256, ← Nat.mul_assoc, Nat.mul_right_comm] at h
    have hm : m * 256 + 256 ≤ 18446744073709551616 := Nat.le_trans (by have := Nat.mul_le_mul_left ((m + 1) * 256) hk; omega) h
    have hv : vf m (UInt8.ofNat (n / 256 ^ k)) = m * 256 + n / 256 ^ k % 256 := by unfold vf; rw [hb]; omega
    rw [be, List.foldl_cons, hv, val_be n k _ (Nat.le_trans (Nat.mul_le_mul_right _ (by omega)) h), pow256]
    have e1 : n % (256 ^ k * 256) = n % 256 ^ k + 256 ^ k * (n / 256 ^ k % 256) := Nat.mod_mul ..
    rw [e1, Nat.add_mul, Nat.mul_comm (n / 256 ^ k % 256) (256 ^ k), Nat.mul_assoc, Nat.mul_comm 256 (256 ^ k)]
    omega
theorem valF_be (n k : Nat) (hk : 256 ^ k ≤ 18446744073709551616) (hn : n < 256 ^ k) : valF (be n k) = n := by
  unfold valF
  rw [val_be n k 0 (by omega), Nat.mod_eq_of_lt hn]; omega
theorem nextF_app (a r : List UInt8) {n : Int} (h : n = (a.length : Int)) : nextF ⟨0, a ++ r⟩ n = (a, ⟨0, r⟩) := by
  subst h
  unfold nextF
  rw [if_neg (by simp), if_neg (by simp only [List.length_append]; omega)]
  simp
theorem fourF_app (n : Nat) (r : List UInt8) (h : n < 4294967296) : fourF ⟨0, four n ++ r⟩ = (n, ⟨0, r⟩) := by
  unfold fourF
  rw [nextF_app (four n) r (by rw [show (four n).length = 4 from be_len _ _]; rfl), show valF (four n) = n from valF_be n 4 (by decide) h, Nat.mod_eq_of_lt h]
theorem eightF_app (n : Nat) (r : List UInt8) (h : n < 18446744073709551616) : eightF ⟨0, eight n ++ r⟩ = (n, ⟨0, r⟩) := by
  unfold eightF
  rw [nextF_app (eight n) r (by rw [show (eight n).length = 8 from be_len _ _]; rfl), show valF (eight n) = n from valF_be n 8 (by decide) h]
theorem boundF_app (n : Nat) (r : List UInt8) {most e : Int} (h : n < 4294967296) (hm : (n : Int) ≤ most) : boundF ⟨0, four n ++ r⟩ most e = (n, ⟨0, r⟩) := by
  unfold boundF
  rw [fourF_app n r h, if_neg (by split <;> simp only <;> omega)]
theorem boundF_many (n : Nat) (r : List UInt8) {most e : Int} (h : n < 4294967296) (h0 : 0 ≤ most) (hm : most < (n : Int)) : boundF ⟨0, four n ++ r⟩ most e = (0, ⟨e, r⟩) := by
  unfold boundF
  rw [fourF_app n r h, if_pos (by split <;> simp only <;> omega)]
  rfl
theorem textF_app (s : ByteArray) (r : List UInt8) {most : Int} (h : s.size < 4294967296) (hm : (s.size : Int) ≤ most) : textF ⟨0, text4 s ++ r⟩ most = (s.data.toList, ⟨0, r⟩) := by
  unfold textF text4
  rw [List.append_assoc, show be s.size 4 = four s.size from rfl, boundF_app s.size (s.data.toList ++ r) h hm]
  exact nextF_app s.data.toList r (by rw [ba_len])
theorem digF_app (d r : List UInt8) (h : d.length = 32) : digF ⟨0, d ++ r⟩ = (d, ⟨0, r⟩) := by
  unfold digF
  rw [nextF_app d r (by rw [h]; rfl), show dig32 d = d from if_pos h]
theorem be_mod (n : Nat) : ∀ k, be (n % 256 ^ k) k = be n k := by
  have key : ∀ (k j : Nat), k ≤ j → be (n % 256 ^ j) k = be n k := by
    intro k
    induction k with
    | zero => intro j _; rfl
    | succ k ih =>
      intro j hj
      rw [be, be, ih j (by omega)]
      congr 1
      apply UInt8.toNat_inj.1
      rw [UInt8.toNat_ofNat', UInt8.toNat_ofNat']
      have e : 256 ^ j = 256 ^ k * (256 * 256 ^ (j - (k + 1))) := by
        rw [← Nat.mul_assoc, ← Nat.pow_succ, ← Nat.pow_add]; congr 1; omega
      rw [e, Nat.mod_mul_right_div_self]
      show n / 256 ^ k % (256 * 256 ^ (j - (k + 1))) % 256 = n / 256 ^ k % 256
      exact Nat.mod_mul_right_mod _ _ _
  exact fun k => key k k (Nat.le_refl _)
theorem val_split : ∀ (l : List UInt8) (m : Nat), (m + 1) * 256 ^ l.length ≤ 18446744073709551616 → l.foldl vf m = m * 256 ^ l.length + l.foldl vf 0 ∧ l.foldl vf 0 < 256 ^ l.length
  | [], m, _ => by simp
  | b :: l, m, h => by
    have hb : b.toNat < 256 := UInt8.toNat_lt b
    have hk : 0 < 256 ^ l.length := Nat.pow_pos (by decide)
    rw [List.length_cons, pow256, ← Nat.mul_assoc, Nat.mul_right_comm] at h
    have hm : m * 256 + 256 ≤ 18446744073709551616 := Nat.le_trans (by have := Nat.mul_le_mul_left ((m + 1) * 256) hk; omega) h
    have e1 : vf m b = m * 256 + b.toNat := by unfold vf; omega
    have e0 : vf 0 b = b.toNat := by unfold vf; omega
    have h1 : (m * 256 + b.toNat + 1) * 256 ^ l.length ≤ 18446744073709551616 := Nat.le_trans (Nat.mul_le_mul_right _ (by omega)) h
    have h2 : (b.toNat + 1) * 256 ^ l.length ≤ 18446744073709551616 := Nat.le_trans (Nat.mul_le_mul_right _ (by omega)) h
    obtain ⟨i1, i2⟩ := val_split l (m * 256 + b.toNat) h1
    obtain ⟨j1, _⟩ := val_split l b.toNat h2
    rw [List.foldl_cons, List.foldl_cons, e1, e0, i1, j1, List.length_cons, pow256]
    refine ⟨?_, ?_⟩
    · rw [Nat.add_mul, Nat.mul_assoc m 256, Nat.mul_comm 256 (256 ^ l.length), Nat.add_assoc]
    · have h3 : (b.toNat + 1) * 256 ^ l.length ≤ 256 * 256 ^ l.length := Nat.mul_le_mul_right _ (by omega)
      rw [Nat.add_mul, Nat.one_mul] at h3
      rw [Nat.mul_comm (256 ^ l.length) 256]
      omega
theorem be_val : ∀ (l : List UInt8), 256 ^ l.length ≤ 18446744073709551616 → be (valF l) l.length = l
  | [], _ => rfl
  | b :: l, h => by
    have hb : b.toNat < 256 := UInt8.toNat_lt b
    have hk : 0 < 256 ^ l.length := Nat.pow_pos (by decide)
    rw [List.length_cons, pow256] at h
    have h2 : (b.toNat + 1) * 256 ^ l.length ≤ 18446744073709551616 := Nat.le_trans (by rw [Nat.mul_comm (256 ^ l.length) 256]; exact Nat.mul_le_mul_right _ (by omega)) h
    have h3 : 256 ^ l.length ≤ 18446744073709551616 := Nat.le_trans (Nat.le_mul_of_pos_right _ (by decide)) h
    obtain ⟨i1, i2⟩ := val_split l b.toNat h2
    have e0 : vf 0 b = b.toNat := by unfold vf; omega
    have e1 : valF (b :: l) = b.toNat * 256 ^ l.length + valF l := by unfold valF; rw [List.foldl_cons, e0, i1]
    have i2 : valF l < 256 ^ l.length := i2
    rw [List.length_cons, be, e1]
    have d1 : (b.toNat * 256 ^ l.length + valF l) / 256 ^ l.length = b.toNat := by
      rw [Nat.mul_comm, Nat.mul_add_div hk, Nat.div_eq_of_lt i2, Nat.add_zero]
    have d2 : be (b.toNat * 256 ^ l.length + valF l) l.length = be (valF l) l.length := by
      rw [← be_mod (b.toNat * 256 ^ l.length + valF l), Nat.mul_comm, Nat.mul_add_mod, Nat.mod_eq_of_lt i2]
    rw [d1, d2, be_val l h3]
    congr 1
    exact UInt8.toNat_inj.1 (by simp)
/-- What was taken without error lay there. -/
theorem next_ok {z : IN} {n : Int} (h : (nextF z n).2.er = 0) : z.er = 0 ∧ z.rest = (nextF z n).1 ++ (nextF z n).2.rest ∧ 0 ≤ n ∧ (nextF z n).1.length = n.toNat := by
  unfold nextF at h ⊢
  split at h
  · rename_i h0; exact absurd h h0
  · rename_i h0
    rw [if_neg h0]
    split at h
    · exact absurd h (show ¬ (3 : Int) = 0 by decide)
    · rename_i h1
      rw [if_neg h1]
      exact ⟨h, by simp, by omega, by simp; omega⟩
theorem next_bad {z : IN} {n : Int} (h : z.er ≠ 0) : nextF z n = ([], z) := if_pos h
theorem fail_er (z : IN) {e : Int} (he : e ≠ 0) : (failF z e).er ≠ 0 := by
  unfold failF; split
  · exact he
  · assumption
theorem four_bad {z : IN} (h : z.er ≠ 0) : fourF z = (0, z) := by unfold fourF; rw [next_bad h]; rfl
theorem eight_bad {z : IN} (h : z.er ≠ 0) : eightF z = (0, z) := by unfold eightF; rw [next_bad h]; rfl
theorem bound_bad {z : IN} {most e : Int} (h : z.er ≠ 0) : boundF z most e = (0, z) := by
  unfold boundF; rw [four_bad h, if_neg (Nat.not_lt_zero _)]
theorem text_bad {z : IN} {most : Int} (h : z.er ≠ 0) : textF z most = ([], z) := by
  unfold textF; rw [bound_bad h]; exact next_bad h
theorem dig_bad {z : IN} (h : z.er ≠ 0) : (digF z).2 = z := by unfold digF; rw [next_bad h]
theorem four_ok {z : IN} (h : (fourF z).2.er = 0) : z.er = 0 ∧ z.rest = four (fourF z).1 ++ (fourF z).2.rest := by
  obtain ⟨h1, h2, _, h4⟩ := next_ok (z := z) (n := 4) h
  refine ⟨h1, ?_⟩
  have h5 : (nextF z 4).1.length = 4 := h4
  have h6 : four (fourF z).1 = (nextF z 4).1 := by
    unfold fourF four
    have h7 := be_mod (valF (nextF z 4).1) 4
    rw [show (256 : Nat) ^ 4 = 4294967296 from rfl] at h7
    rw [h7, ← h5, be_val _ (by rw [h5]; decide)]
  rw [h6]; exact h2
theorem eight_ok {z : IN} (h : (eightF z).2.er = 0) : z.er = 0 ∧ z.rest = eight (eightF z).1 ++ (eightF z).2.rest := by
  obtain ⟨h1, h2, _, h4⟩ := next_ok (z := z) (n := 8) h
  refine ⟨h1, ?_⟩
  have h5 : (nextF z 8).1.length = 8 := h4
  have h6 : eight (eightF z).1 = (nextF z 8).1 := by
    unfold eightF eight
    rw [← h5, be_val _ (by rw [h5]; decide)]
  rw [h6]; exact h2
theorem bound_ok {z : IN} {most e : Int} (he : e ≠ 0) (h : (boundF z most e).2.er = 0) : z.er = 0 ∧ z.rest = four (boundF z most e).1 ++ (boundF z most e).2.rest ∧ (boundF z most e).1 ≤ (if 0 > most then 0 else most).toNat := by
  by_cases h0 : (fourF z).1 > (if 0 > most then 0 else most).toNat
  · have e1 : boundF z most e = (0, failF (fourF z).2 e) := if_pos h0
    rw [e1] at h
    exact absurd h (fail_er _ he)
  · have e1 : boundF z most e = fourF z := if_neg h0
    rw [e1] at h ⊢
    obtain ⟨h1, h2⟩ := four_ok h
    exact ⟨h1, h2, by omega⟩
theorem text_ok {z : IN} {most : Int} (h : (textF z most).2.er = 0) : z.er = 0 ∧ z.rest = text4 (tx (textF z most).1) ++ (textF z most).2.rest := by
  obtain ⟨h1, h2, h3, h4⟩ := next_ok (z := (boundF z most 5).2) h
  obtain ⟨g1, g2, _⟩ := bound_ok (by decide) h1
  refine ⟨g1, ?_⟩
  have h5 : (textF z most).1.length = (boundF z most 5).1 := h4.trans (Int.toNat_natCast _)
  rw [g2, h2]
  unfold text4
  rw [tx_size, h5, tx_list, ← List.append_assoc]; rfl
theorem dig_ok {z : IN} (h : (digF z).2.er = 0) : z.er = 0 ∧ z.rest = (digF z).1 ++ (digF z).2.rest := by
  obtain ⟨h1, h2, _, h4⟩ := next_ok (z := z) (n := 32) h
  refine ⟨h1, ?_⟩
  have h6 : (digF z).1 = (nextF z 32).1 := if_pos h4
  rw [h6]; exact h2
theorem rows_ok {β : Type} {tk : IN → β × IN} {f : β → List UInt8} (hb : ∀ z, z.er ≠ 0 → (tk z).2 = z) (ht : ∀ z, (tk z).2.er = 0 → z.er = 0 ∧ z.rest = f (tk z).1 ++ (tk z).2.rest) : ∀ (k : Nat) (z : IN) (acc : List β), (rowsF tk k z acc).2.er = 0 → z.er = 0 ∧ ∃ l : List β, (rowsF tk k z acc).1 = acc ++ l ∧ l.length = k ∧ z.rest = flat f l ++ (rowsF tk k z acc).2.rest
  | 0, z, acc, h => ⟨h, [], by simp [rowsF], rfl, by simp [rowsF, flat]⟩
  | k + 1, z, acc, h => by
    rw [rowsF] at h ⊢
    split at h
    · rename_i h0; exact absurd h h0
    · rename_i h0
      rw [if_neg h0]
      obtain ⟨h1, l, h2, h3, h4⟩ := rows_ok hb ht k (tk z).2 (acc ++ [(tk z).1]) h
      obtain ⟨g1, g2⟩ := ht z h1
      refine ⟨g1, (tk z).1 :: l, by rw [h2, List.append_assoc]; rfl, by rw [List.length_cons, h3], ?_⟩
      rw [g2, h4]
      simp [flat]
theorem rows_app {β : Type} {tk : IN → β × IN} {f : β → List UInt8} : ∀ (xs : List β) (r : List UInt8) (acc : List β), (∀ x ∈ xs, ∀ r, tk ⟨0, f x ++ r⟩ = (x, ⟨0, r⟩)) → rowsF tk xs.length ⟨0, flat f xs ++ r⟩ acc = (acc ++ xs, ⟨0, r⟩)
  | [], r, acc, _ => by simp [rowsF, flat]
  | x :: xs, r, acc, h => by
    have hx := h x (List.mem_cons_self ..) (flat f xs ++ r)
    have hf : flat f (x :: xs) ++ r = f x ++ (flat f xs ++ r) := by simp [flat]
    rw [List.length_cons, hf, rowsF_succ (by rw [hx]; simp), hx, rows_app xs r _ (fun y hy => h y (List.mem_cons_of_mem _ hy)), List.append_assoc]
    rfl
/-- The document's way to take a row: up to an error. -/
def takeL {β : Type} (tk : IN → β × IN) : Nat → IN → List β → List β × IN
  | 0, z, acc => (acc, z)
  | k + 1, z, acc => if z.er ≠ 0 then (acc, z) else takeL tk k (tk z).2 (acc ++ [(tk z).1])
theorem takeL_bad {β : Type} {tk : IN → β × IN} {k : Nat} {z : IN} {acc : List β} (h : z.er ≠ 0) : takeL tk k z acc = (acc, z) := by
  cases k with
  | zero => rfl
  | succ k => exact if_pos h
theorem takeL_rows {β : Type} {tk : IN → β × IN} (hb : ∀ z, z.er ≠ 0 → (tk z).2 = z) : ∀ (k : Nat) (z : IN) (acc : List β), (takeL tk k z acc).2 = (rowsF tk k z acc).2 ∧ ((rowsF tk k z acc).2.er = 0 → (takeL tk k z acc).1 = (rowsF tk k z acc).1)
  | 0, z, acc => ⟨rfl, fun _ => rfl⟩
  | k + 1, z, acc => by
    rw [takeL, rowsF]
    by_cases h0 : z.er ≠ 0
    · rw [if_pos h0, hb z h0, if_pos h0]
      exact ⟨rfl, fun h => absurd h h0⟩
    · rw [if_neg h0]
      by_cases h1 : (tk z).2.er ≠ 0
      · rw [if_pos h1, takeL_bad h1]
        exact ⟨rfl, fun h => absurd h h1⟩
      · rw [if_neg h1]
        exact takeL_rows hb k (tk z).2 _
end Go.Proofs.Ytejgpniaoccpoaa
