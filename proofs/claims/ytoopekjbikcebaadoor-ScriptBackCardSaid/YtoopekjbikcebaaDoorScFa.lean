/- script: words of the program's parsing. -/
import Derived.Test.YtoopekjbikcebaaDoorScD
import Derived.Test.YtoopekjbikcebaaDoorK12
import Derived.Lib.Bytealg
namespace Go.Proofs.YtoopekjbikcebaaDoor
open K
set_option linter.unusedVariables false

def numV (l : List UInt8) : Nat × Bool := match numP l with
  | none => (0, false)
  | some n => (n, true)
theorem numV_none {l : List UInt8} (h : numP l = none) : numV l = (0, false) := by unfold numV; rw [h]
theorem numV_some {l : List UInt8} {n : Nat} (h : numP l = some n) : numV l = (n, true) := by unfold numV; rw [h]
theorem numP_bad {l : List UInt8} (h : l = [] ∨ 10 < l.length ∨ ((l.getD 0 0).toNat = 48 ∧ 1 < l.length)) : numP l = none := by
  unfold numP
  by_cases hd : l.all isD = true
  · have hg : goodD l = false := by
      rcases h with rfl | h | ⟨h1, h2⟩
      · rfl
      · exact good_long hd h
      · cases l with
        | nil => simp at h2
        | cons c r =>
          have hc : c = 48 := UInt8.toNat_inj.1 h1
          unfold goodD
          rw [decide_eq_true h2, hc]; rfl
    rw [hg, Bool.and_false]; rfl
  · rw [Bool.eq_false_iff.2 hd]; rfl
theorem numP_char {l : List UInt8} {k : Nat} (hk : k < l.length) (h : isD (l.getD k 0) = false) : numP l = none := by
  have hd : l.all isD = false := by
    rw [Bool.eq_false_iff]
    intro hx
    have := List.all_eq_true.1 hx (l.getD k 0) (by rw [List.getD_eq_getElem?_getD, List.getElem?_eq_getElem hk]; exact List.getElem_mem hk)
    rw [h] at this; cases this
  unfold numP; rw [hd]; rfl
theorem all_at {l : List UInt8} {p : UInt8 → Bool} (h : ∀ j, j < l.length → p (l.getD j 0) = true) : l.all p = true := by
  rw [List.all_eq_true]
  intro x hx
  obtain ⟨i, hi, rfl⟩ := List.mem_iff_getElem.1 hx
  have := h i hi
  rwa [List.getD_eq_getElem?_getD, List.getElem?_eq_getElem hi] at this
theorem numP_all {l : List UInt8} (h0 : ¬ (l = [] ∨ 10 < l.length ∨ ((l.getD 0 0).toNat = 48 ∧ 1 < l.length))) (hd : ∀ j, j < l.length → isD (l.getD j 0) = true) : numP l = if valF 0 l ≤ 4294967295 then some (valF 0 l) else none := by
  unfold numP
  rw [all_at hd, Bool.true_and]
  have hne : l ≠ [] := fun h => h0 (.inl h)
  have hz : (decide (1 < l.length) && (l.headD 0 == 48)) = false := by
    cases l with
    | nil => exact absurd rfl hne
    | cons c r =>
      by_cases h1 : 1 < (c :: r).length
      · have : (c == 48) = false := beq_eq_false_iff_ne.2 (fun h => h0 (.inr (.inr ⟨by rw [h]; rfl, h1⟩)))
        rw [show (c :: r).headD 0 = c from rfl, this, Bool.and_false]
      · rw [decide_eq_false h1]; rfl
  unfold goodD
  rw [isEmpty_ne hne, hz]
  by_cases hv : valF 0 l ≤ 4294967295
  · rw [decide_eq_true hv, if_pos hv]; rfl
  · rw [decide_eq_false hv, if_neg hv]; rfl
theorem val_10 {l : List UInt8} {k : Nat} (hk : k ≤ 10) (hkl : k ≤ l.length) (hd : ∀ j, j < k → isD (l.getD j 0) = true) : valF 0 (l.take k) < 10000000000 := by
  have h1 := valF_lt (l.take k) 0 (all_at (fun j hj => by
    rw [List.length_take] at hj
    have := hd j (by omega)
    rw [List.getD_eq_getElem?_getD] at this ⊢
    rw [List.getElem?_take_of_lt (by omega)]; exact this))
  have h2 : 10 ^ (l.take k).length ≤ 10 ^ 10 := Nat.pow_le_pow_right (by decide) (by rw [List.length_take]; omega)
  rw [Nat.zero_add, Nat.one_mul] at h1
  exact Nat.lt_of_lt_of_le h1 h2
theorem empty_raw (t : ByteArray) : (t.toList == (⟨#[]⟩ : ByteArray).toList) = decide (t.data.toList = []) := by
  have := beq_tx t.data.toList []
  rw [tx_back] at this; exact this
/-! The end of a text -/
def endsN (l : List UInt8) : Bool := decide (l.getLast? = some 10)
def cutN (l : List UInt8) : List UInt8 × Bool := if endsN l then (l.dropLast, true) else (l, false)
theorem ends_at {l : List UInt8} (h : 1 ≤ l.length) : endsN l = decide (l.drop (l.length - 1) = [10]) := by
  unfold endsN
  have e : l.drop (l.length - 1) = [l.getLast (List.length_pos_iff.1 h)] := by
    conv => lhs; rw [← List.dropLast_concat_getLast (List.length_pos_iff.1 h)]
    rw [List.length_append, List.length_singleton, Nat.add_sub_cancel, List.drop_left]
  rw [e, List.getLast?_eq_some_getLast (List.length_pos_iff.1 h)]
  by_cases hx : l.getLast (List.length_pos_iff.1 h) = 10
  · rw [hx]; rfl
  · rw [decide_eq_false (fun h => hx (Option.some.inj h)), decide_eq_false (fun h => hx (by injection h))]
theorem ends_short {l : List UInt8} (h : ¬ 1 ≤ l.length) : endsN l = false := by
  have : l = [] := List.eq_nil_of_length_eq_zero (by omega)
  rw [this]; rfl
/-! Places of a byte -/
theorem ix_eq (c : UInt8) : ∀ l : List UInt8, Lib.indexByte l c = if l.dropWhile (fun x => x != c) = [] then -1 else ((l.takeWhile (fun x => x != c)).length : Int)
  | [] => rfl
  | b :: l => by
    have ih := ix_eq c l
    unfold Lib.indexByte
    by_cases hb : b = c
    · subst hb
      rw [if_pos (by simp), List.dropWhile_cons, List.takeWhile_cons, if_neg (by simp), if_neg (by simp)]; rfl
    · have h1 : (b == c) = false := beq_eq_false_iff_ne.2 hb
      have h2 : (b != c) = true := bne_iff_ne.2 hb
      rw [h1, List.dropWhile_cons, List.takeWhile_cons, if_pos h2, if_pos h2, if_neg (by decide), ih]
      by_cases hd : l.dropWhile (fun x => x != c) = []
      · rw [if_pos hd, if_pos hd]; rfl
      · rw [if_neg hd, if_neg hd]
        have : ((((l.takeWhile (fun x => x != c)).length : Int)) == -1) = false := by rw [beq_eq_false_iff_ne]; omega
        rw [this, List.length_cons, if_neg (by decide)]; omega
theorem ix_32 (l : List UInt8) : Lib.indexByte l 32 = if l.dropWhile notB = [] then -1 else ((l.takeWhile notB).length : Int) := ix_eq 32 l
def ne10 (c : UInt8) : Bool := c != 10
theorem ix_10 (l : List UInt8) : Lib.indexByte l 10 = if l.dropWhile ne10 = [] then -1 else ((l.takeWhile ne10).length : Int) := ix_eq 10 l
/-! The parts -/
def splitA (cur : List UInt8) : List UInt8 → List (List UInt8)
  | [] => [cur]
  | c :: r => if c = 32 then cur :: splitA [] r else splitA (cur ++ [c]) r
theorem splitA_blank : ∀ (b cur r : List UInt8), b.all notB = true → splitA cur (b ++ 32 :: r) = (cur ++ b) :: splitA [] r
  | [], cur, r, _ => by rw [List.append_nil]; rfl
  | c :: b, cur, r, h => by
    rw [List.all_cons, Bool.and_eq_true] at h
    have hc : ¬ c = 32 := by have := h.1; unfold notB at this; simpa using this
    show (if c = 32 then _ else splitA (cur ++ [c]) (b ++ 32 :: r)) = _
    rw [if_neg hc, splitA_blank b (cur ++ [c]) r h.2, List.append_assoc]; rfl
theorem splitA_end : ∀ (b cur : List UInt8), b.all notB = true → splitA cur b = [cur ++ b]
  | [], cur, _ => by rw [List.append_nil]; rfl
  | c :: b, cur, h => by
    rw [List.all_cons, Bool.and_eq_true] at h
    have hc : ¬ c = 32 := by have := h.1; unfold notB at this; simpa using this
    show (if c = 32 then _ else splitA (cur ++ [c]) b) = _
    rw [if_neg hc, splitA_end b (cur ++ [c]) h.2, List.append_assoc]; rfl
theorem splitA_len : ∀ (l cur : List UInt8), (splitA cur l).length = l.count 32 + 1
  | [], cur => rfl
  | c :: r, cur => by
    show (if c = 32 then cur :: splitA [] r else splitA (cur ++ [c]) r).length = _
    by_cases hc : c = 32
    · rw [if_pos hc, List.length_cons, splitA_len r [], hc, List.count_cons_self]
    · rw [if_neg hc, splitA_len r (cur ++ [c]), List.count_cons_of_ne hc]
theorem restP_split : ∀ (f : Nat) (q : List UInt8), (32 :: q).length ≤ f → restP f (32 :: q) = splitA [] q
  | 0, q, h => by simp at h
  | f + 1, q, h => by
    show q.takeWhile notB :: restP f (q.dropWhile notB) = _
    conv => rhs; rw [← List.takeWhile_append_dropWhile (p := notB) (l := q)]
    rcases nb_head (l := q) with h0 | ⟨r, h0⟩
    · rw [h0, rest_nil, List.append_nil, splitA_end _ _ (takeWhile_all _ _)]; rfl
    · have hl := dropWhile_len notB q
      rw [h0] at hl
      rw [h0, splitA_blank _ _ _ (takeWhile_all _ _), restP_split f r (by simp only [List.length_cons] at h hl ⊢; omega)]; rfl
theorem parts_split (t : List UInt8) : parts t = splitA [] t := by
  unfold parts
  conv => rhs; rw [← List.takeWhile_append_dropWhile (p := notB) (l := t)]
  rcases nb_head (l := t) with h0 | ⟨r, h0⟩
  · rw [h0, rest_nil, List.append_nil, splitA_end _ _ (takeWhile_all _ _)]; rfl
  · have hl := dropWhile_len notB t
    rw [h0] at hl
    rw [h0, splitA_blank _ _ _ (takeWhile_all _ _), restP_split t.length r hl]; rfl
theorem split_next {s r : List UInt8} (h : s.dropWhile notB = 32 :: r) : splitA [] s = s.takeWhile notB :: splitA [] r := by
  conv => lhs; rw [← List.takeWhile_append_dropWhile (p := notB) (l := s), h]
  rw [splitA_blank _ _ _ (takeWhile_all _ _)]; rfl
theorem split_last {s : List UInt8} (h : s.dropWhile notB = []) : splitA [] s = [s] := by
  have e : s.takeWhile notB = s := by
    have := List.takeWhile_append_dropWhile (p := notB) (l := s)
    rw [h, List.append_nil] at this; exact this
  have h2 := takeWhile_all notB s
  rw [e] at h2
  rw [splitA_end s [] h2]; rfl
/-- Texts as cells. -/
def strs (l : List (List UInt8)) : List Value := l.map fun x => .string (tx x)
theorem strs_app (a b : List (List UInt8)) : strs (a ++ b) = strs a ++ strs b := List.map_append ..
theorem strs_len (l : List (List UInt8)) : (strs l).length = l.length := List.length_map ..
def rowSt (d : List (List UInt8)) (n : Nat) : Array Value := (strs d ++ List.replicate (n - d.length) (Value.string (tx []))).toArray
theorem rowSt_size {d : List (List UInt8)} {n : Nat} (h : d.length ≤ n) : (rowSt d n).size = n := by
  unfold rowSt
  rw [List.size_toArray, List.length_append, strs_len, List.length_replicate]; omega
theorem rowSt_set {d : List (List UInt8)} {n : Nat} (h : d.length < n) (x : List UInt8) : (rowSt d n).setIfInBounds d.length (.string (tx x)) = rowSt (d ++ [x]) n := by
  unfold rowSt
  rw [List.setIfInBounds_toArray]
  congr 1
  obtain ⟨m, hm⟩ : ∃ m, n - d.length = m + 1 := ⟨n - d.length - 1, by omega⟩
  rw [hm, List.replicate_succ, List.set_append_right _ _ (by rw [strs_len]; exact Nat.le_refl _), strs_len, Nat.sub_self, List.set_cons_zero, strs_app, List.length_append, List.append_assoc]
  rw [show n - (d.length + [x].length) = m by simp only [List.length_cons, List.length_nil]; omega]; rfl
theorem rowSt_full {d : List (List UInt8)} {n : Nat} (h : d.length = n) : rowSt d n = (strs d).toArray := by
  unfold rowSt; rw [h, Nat.sub_self, List.replicate_zero, List.append_nil]

theorem ne_raw {t : ByteArray} (h : (t.toList == (⟨#[]⟩ : ByteArray).toList) = false) : 0 < t.size := by
  have hlen := ba_len t
  rw [empty_raw] at h
  rcases Nat.eq_zero_or_pos t.size with h0 | h0
  · have : t.data.toList = [] := List.eq_nil_of_length_eq_zero (by omega)
    rw [this] at h; simp at h
  · exact h0
theorem num_c1 {t : ByteArray} (h : ((t.toList == (⟨#[]⟩ : ByteArray).toList) = true ∨ (t.size : Int) > 10) ∨ (sbyte t 0 = 48 ∧ (t.size : Int) > 1)) : t.data.toList = [] ∨ 10 < t.data.toList.length ∨ ((t.data.toList.getD 0 0).toNat = 48 ∧ 1 < t.data.toList.length) := by
  have hlen := ba_len t
  have h0 : sbyte t 0 = ((t.data.toList.getD 0 0).toNat : Int) := rfl
  rcases h with (h | h) | h
  · rw [empty_raw] at h; exact .inl (by simpa using h)
  · exact .inr (.inl (by omega))
  · exact .inr (.inr (by omega))
theorem num_c0 {t : ByteArray} (h : ((t.toList == (⟨#[]⟩ : ByteArray).toList) = false ∧ ¬ (t.size : Int) > 10) ∧ (sbyte t 0 ≠ 48 ∨ ¬ (t.size : Int) > 1)) : ¬ (t.data.toList = [] ∨ 10 < t.data.toList.length ∨ ((t.data.toList.getD 0 0).toNat = 48 ∧ 1 < t.data.toList.length)) := by
  have hlen := ba_len t
  have h0 : sbyte t 0 = ((t.data.toList.getD 0 0).toNat : Int) := rfl
  obtain ⟨⟨h1, h2⟩, h3⟩ := h
  rw [empty_raw] at h1
  rintro (h | h | h)
  · rw [h] at h1; simp at h1
  · omega
  · omega
theorem has_raw (t : ByteArray) : endsN t.data.toList = (decide ((t.size : Int) ≥ 1) && ((t.extract ((t.size : Int) - 1).toNat t.size).toList == (⟨#[10]⟩ : ByteArray).toList)) := by
  have hlen := ba_len t
  by_cases h : 1 ≤ t.data.toList.length
  · have e : ((t.size : Int) - 1).toNat = t.data.toList.length - 1 := by omega
    rw [ends_at h, decide_eq_true (show (t.size : Int) ≥ 1 by omega), Bool.true_and, e, ext_tx, show (⟨#[10]⟩ : ByteArray) = tx [10] from rfl, beq_tx, List.take_of_length_le (by rw [List.length_drop]; omega)]
  · rw [ends_short h, decide_eq_false (show ¬ (t.size : Int) ≥ 1 by omega)]; rfl
end Go.Proofs.YtoopekjbikcebaaDoor
