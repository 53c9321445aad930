/- wire: what is laid is taken as it was. -/
import Derived.Test.YtmkefcjphdaoiaaWireB1
namespace Go.Proofs.Ytmkefcjphdaoiaa
open K
set_option linter.unusedVariables false

theorem pow256 (k : Nat) : 256 ^ (k + 1) = 256 ^ k * 256 := Nat.pow_succ ..
theorem val_be (n : Nat) : ∀ (k m : Nat), (m + 1) * 256 ^ k ≤ 18446744073709551616 → (be n k).foldl vf m = m * 256 ^ k + n % 256 ^ k
  | 0, m, _ => by simp [be, Nat.mod_one]
  | k + 1, m, h => by
    have hk : 0 < 256 ^ k := Nat.pow_pos (by decide)
    have hb : (UInt8.ofNat (n / 256 ^ k)).toNat = n / 256 ^ k % 256 := by simp
    have hlt : n / 256 ^ k % 256 < 256 := Nat.mod_lt _ (by decide)
    rw [pow256, ← Nat.mul_assoc, Nat.mul_right_comm] at h
    have hm : m * 256 + 256 ≤ 18446744073709551616 := Nat.le_trans (by have := Nat.mul_le_mul_left ((m + 1) * 256) hk; omega) h
    have hv : vf m (UInt8.ofNat (n / 256 ^ k)) = m * 256 + n / 256 ^ k % 256 := by unfold vf; rw [hb]; omega
    rw [be, List.foldl_cons, hv, val_be n k _ (Nat.le_trans (Nat.mul_le_mul_right _ (by omega)) h), pow256]
    have e1 : n % (256 ^ k * 256) = n % 256 ^ k + 256 ^ k * (n / 256 ^ k % 256) := Nat.mod_mul ..
    rw [e1, Nat.add_mul, Nat.mul_comm (n / 256 ^ k % 256) (256 ^ k), Nat.mul_assoc, Nat.mul_comm 256 (256 ^ k)]
    omega
theorem valF_be (n k : Nat) (hk : 256 ^ k ≤ 18446744073709551616) (hn : n < 256 ^ k) : valF (be n k) = n := by
  unfold valF
  rw [val_be n k 0 (by omega), Nat.mod_eq_of_lt hn]; omega
theorem nextF_app (a r : List UInt8) {n : Int} (h : n = (a.length : Int)) : nextF ⟨0, a ++ r⟩ n = (a, ⟨0, r⟩) := by
  subst h
  unfold nextF
  rw [if_neg (by simp), if_neg (by simp only [List.length_append]; omega)]
  simp
theorem fourF_app (n : Nat) (r : List UInt8) (h : n < 4294967296) : fourF ⟨0, four n ++ r⟩ = (n, ⟨0, r⟩) := by
  unfold fourF
  rw [nextF_app (four n) r (by rw [show (four n).length = 4 from be_len _ _]; rfl), show valF (four n) = n from valF_be n 4 (by decide) h, Nat.mod_eq_of_lt h]
theorem eightF_app (n : Nat) (r : List UInt8) (h : n < 18446744073709551616) : eightF ⟨0, eight n ++ r⟩ = (n, ⟨0, r⟩) := by
  unfold eightF
  rw [nextF_app (eight n) r (by rw [show (eight n).length = 8 from be_len _ _]; rfl), show valF (eight n) = n from valF_be n 8 (by decide) h]
theorem boundF_app (n : Nat) (r : List UInt8) {most e : Int} (h : n < 4294967296) (hm : (n : Int) ≤ most) : boundF ⟨0, four n ++ r⟩ most e = (n, ⟨0, r⟩) := by
  unfold boundF
  rw [fourF_app n r h, if_neg (by split <;> simp only <;> omega)]
theorem boundF_many (n : Nat) (r : List UInt8) {most e : Int} (h : n < 4294967296) (h0 : 0 ≤ most) (hm : most < (n : Int)) : boundF ⟨0, four n ++ r⟩ most e = (0, ⟨e, r⟩) := by
  unfold boundF
  rw [fourF_app n r h, if_pos (by split <;> simp only <;> omega)]
  rfl
theorem textF_app (s : ByteArray) (r : List UInt8) {most : Int} (h : s.size < 4294967296) (hm : (s.size : Int) ≤ most) : textF ⟨0, text4 s ++ r⟩ most = (s.data.toList, ⟨0, r⟩) := by
  unfold textF text4
  rw [List.append_assoc, show be s.size 4 = four s.size from rfl, boundF_app s.size (s.data.toList ++ r) h hm]
  exact nextF_app s.data.toList r (by rw [ba_len])
theorem digF_app (d r : List UInt8) (h : d.length = 32) : digF ⟨0, d ++ r⟩ = (d, ⟨0, r⟩) := by
  unfold digF
  rw [nextF_app d r (by rw [h]; rfl), show dig32 d = d from if_pos h]
theorem rowsF_app : ∀ (xs : List ByteArray) (r : List UInt8) (acc : List ByteArray), (∀ j, j < xs.length → (xs.getD j ByteArray.empty).size ≤ 300) → rowsF (tkText 300) xs.length ⟨0, flat text4 xs ++ r⟩ acc = (acc ++ xs, ⟨0, r⟩)
  | [], r, acc, _ => by simp [rowsF, flat]
  | x :: xs, r, acc, h => by
    have h0 := h 0 (by simp)
    simp only [List.getD_cons_zero] at h0
    have ht : tkText 300 ⟨0, text4 x ++ (flat text4 xs ++ r)⟩ = (x, ⟨0, flat text4 xs ++ r⟩) := by
      unfold tkText
      rw [textF_app x _ (by omega) (by omega), tx_back]
    have hf : flat text4 (x :: xs) ++ r = text4 x ++ (flat text4 xs ++ r) := by simp [flat]
    rw [List.length_cons, hf, rowsF_succ (by rw [ht]; simp), ht, rowsF_app xs r _ (fun j hj => by have := h (j + 1) (by simpa using hj); simpa using this), List.append_assoc]
    rfl
theorem rowsT_app (xs : List ByteArray) (r : List UInt8) {most : Int} (h32 : xs.length < 4294967296) (hm : (xs.length : Int) ≤ most) (h : ∀ j, j < xs.length → (xs.getD j ByteArray.empty).size ≤ 300) : rowsT (tkText 300) ⟨0, rowF xs ++ r⟩ most = (xs, ⟨0, r⟩) := by
  unfold rowsT rowF
  rw [List.append_assoc, boundF_app xs.length _ h32 hm]
  exact rowsF_app xs r [] h
theorem rowsT_many (xs : List ByteArray) (r : List UInt8) {most : Int} (h32 : xs.length < 4294967296) (h0 : 0 ≤ most) (hm : most < (xs.length : Int)) : rowsT (tkText 300) ⟨0, rowF xs ++ r⟩ most = ([], ⟨6, flat text4 xs ++ r⟩) := by
  unfold rowsT rowF
  rw [List.append_assoc, boundF_many xs.length _ h32 h0 hm]
  rfl
theorem eightGood (b n : Nat) (r : List UInt8) (w : World) (h : n < 18446744073709551616) (hB : w.heap[b]? = some (.cells (inC ⟨0, eight n ++ r⟩) 103 (0, 0))) :
    Calls Try.prog 23 #[.pointer (some ⟨b, 0, none⟩)] w fun e w' => e = .returned (.int .u64 (n : Int)) ∧ Ext [b] w w' ∧ w'.heap[b]? = some (.cells (inC ⟨0, r⟩) 103 (0, 0)) := by
  have := wTEight b ⟨0, eight n ++ r⟩ w hB
  rw [eightF_app n r h] at this; exact this
theorem digGood (b : Nat) (d r : List UInt8) (w : World) (h : d.length = 32) (hB : w.heap[b]? = some (.cells (inC ⟨0, d ++ r⟩) 103 (0, 0))) :
    Calls Try.prog 25 #[.pointer (some ⟨b, 0, none⟩)] w fun e w' => e = .returned (.agg (bv d)) ∧ Ext [b] w w' ∧ w'.heap[b]? = some (.cells (inC ⟨0, r⟩) 103 (0, 0)) := by
  have := wTDigest b ⟨0, d ++ r⟩ w hB
  rw [digF_app d r h] at this; exact this
theorem rowsGood (b : Nat) (ls : List ByteArray) (r : List UInt8) (most : Int) (w : World) (h32 : ls.length < 4294967296) (hm : most ≤ 1048576) (hl : (ls.length : Int) ≤ most) (h : ∀ j, j < ls.length → (ls.getD j ByteArray.empty).size ≤ 300) (hB : w.heap[b]? = some (.cells (inC ⟨0, rowF ls ++ r⟩) 103 (0, 0))) :
    Calls Try.prog 47 #[.pointer (some ⟨b, 0, none⟩), .int .i64 most, .func (.func 44) #[] #[]] w fun e w' => ∃ o : Own, OwnOk o 1 ls.length (scells ls) ∧ e = .returned (.slice o.a ls.length o.c) ∧ Ext [b] w w' ∧ w'.heap[b]? = some (.cells (inC ⟨0, r⟩) 103 (0, 0)) ∧ Has w' (o.o 9 (scells ls)) ∧ (∀ x ∈ o.o 9 (scells ls), w.heap.size ≤ x.1) := by
  have := wRowsB b ⟨0, rowF ls ++ r⟩ most w hB hm
  rw [rowsT_app ls r h32 hl h] at this; exact this
theorem rowsMany (b : Nat) (ls : List ByteArray) (r : List UInt8) (most : Int) (w : World) (h32 : ls.length < 4294967296) (hm : most ≤ 1048576) (h0 : 0 ≤ most) (hl : most < (ls.length : Int)) (hB : w.heap[b]? = some (.cells (inC ⟨0, rowF ls ++ r⟩) 103 (0, 0))) :
    Calls Try.prog 47 #[.pointer (some ⟨b, 0, none⟩), .int .i64 most, .func (.func 44) #[] #[]] w fun e w' => ∃ o : Own, OwnOk o 1 0 (scells []) ∧ e = .returned (.slice o.a 0 o.c) ∧ Ext [b] w w' ∧ w'.heap[b]? = some (.cells (inC ⟨6, flat text4 ls ++ r⟩) 103 (0, 0)) ∧ Has w' (o.o 9 (scells [])) ∧ (∀ x ∈ o.o 9 (scells []), w.heap.size ≤ x.1) := by
  have := wRowsB b ⟨0, rowF ls ++ r⟩ most w hB hm
  rw [rowsT_many ls r h32 h0 hl] at this; exact this
theorem end0 : endF ⟨0, []⟩ = 0 := rfl
theorem inS_dig (bk : Nat) (t : TypeId) (fr : Nat × Nat) (d : List UInt8) (h : d.length = 32) : InS [(bk, .cells (bv d) t fr)] (some ⟨bk, 0, none⟩) ([d].length * 32) (fun j => .int .u8 ((([d].getD (j / 32) []).getD (j % 32) 0).toNat : Int)) := by
  intro _
  refine ⟨bk, 0, _, t, fr, rfl, List.mem_singleton.2 rfl, fun j hj => ?_⟩
  simp only [List.length_cons, List.length_nil] at hj
  rw [Nat.zero_add, bv_get h (by omega)]
  simp only [show j / 32 = 0 by omega, show j % 32 = j by omega]
  rfl
theorem wDigest1 (l d : List UInt8) (bk : Nat) (t : TypeId) (w : World) (h : d.length = 32) (hr : l.length + 32 ≤ 140737488355328) (hh : Has w [(bk, .cells (bv d) t (0, 0))]) :
    Calls Try.prog 38 #[.agg #[.string (tx l)], .slice (some ⟨bk, 0, none⟩) 1 1] w fun e w' => e = .returned (.agg #[.string (tx (l ++ d))]) ∧ Ext [] w w' := by
  have := wDigest (tx l) (some ⟨bk, 0, none⟩) 1 [d] [(bk, .cells (bv d) t (0, 0))] w (inS_dig bk t (0, 0) d h) hh (by simp [maxLen]) (by rw [flat_one, tx_size]; show _ + d.length ≤ _; omega) (fun i hi => by
    obtain rfl : i = 0 := by simpa using hi
    exact h)
  rw [flat_one] at this
  exact this
theorem cut32 (a d : List UInt8) (h : d.length = 32) : (tx (a ++ d)).extract 0 ((((tx (a ++ d)).size : Int) - 32).toNat) = tx a := by
  rw [tx_take, tx_size, List.length_append, h, show (((a.length + 32 : Nat) : Int) - 32).toNat = a.length by omega]
  simp

end Go.Proofs.Ytmkefcjphdaoiaa
