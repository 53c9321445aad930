/- script, in plain words: the lines of steps, the steps of lines; what is printed is parsed as it was, what is parsed is printed so. -/
import Derived.Lib.ItoaNum
import Derived.Test.YtoopekjbikcebaaDoorK26
namespace Go.Proofs.YtoopekjbikcebaaDoor
open K
set_option linter.unusedVariables false

open Lib (decDigits)
/-- A step: kind, id, a, b, pa, pb. -/
abbrev Stp := Int × Nat × Nat × Nat × Nat × Nat
def wdA1 : List UInt8 := [118, 101, 114, 116, 101, 120]
def wdA2 : List UInt8 := [110, 111, 45, 118, 101, 114, 116, 101, 120]
def wdA3 : List UInt8 := [101, 100, 103, 101]
def wdA4 : List UInt8 := [110, 111, 45, 101, 100, 103, 101]
def wdK (k : Int) : List UInt8 := if k = 1 then wdA1 else if k = 2 then wdA2 else if k = 3 then wdA3 else wdA4
def kindW (w : List UInt8) : Int := if w = wdA1 then 1 else if w = wdA2 then 2 else if w = wdA3 then 3 else if w = wdA4 then 4 else 0
def spD (n : Nat) : List UInt8 := 32 :: decDigits n
def joinT (w : List UInt8) (l : List Nat) : List UInt8 := w ++ l.flatMap spD
def lineT (s : Stp) : List UInt8 := if s.1 = 3 then joinT wdA3 [s.2.1, s.2.2.1, s.2.2.2.1, s.2.2.2.2.1, s.2.2.2.2.2] else joinT (wdK s.1) [s.2.1]
def bare (s : Stp) : Prop := s.2.2.1 = 0 ∧ s.2.2.2.1 = 0 ∧ s.2.2.2.2.1 = 0 ∧ s.2.2.2.2.2 = 0
instance (s : Stp) : Decidable (bare s) := by unfold bare; exact inferInstance
def lineE (s : Stp) : Int := if s.1 < 1 ∨ 4 < s.1 then 11 else if s.1 = 3 then 0 else if bare s then 0 else 4
def isD (c : UInt8) : Bool := decide (48 ≤ c.toNat) && decide (c.toNat ≤ 57)
def valF (n : Nat) : List UInt8 → Nat
  | [] => n
  | c :: r => valF (n * 10 + (c.toNat - 48)) r
def goodD (d : List UInt8) : Bool := !d.isEmpty && !(decide (1 < d.length) && (d.headD 0 == 48)) && decide (valF 0 d ≤ 4294967295)
def numP (p : List UInt8) : Option Nat := if p.all isD && goodD p then some (valF 0 p) else none
def numR : List UInt8 → Option (Nat × List UInt8)
  | [] => none
  | c :: q => if c = 32 then (if goodD (q.takeWhile isD) then some (valF 0 (q.takeWhile isD), q.dropWhile isD) else none) else none
def numsE : Nat → List UInt8 → Option (List Nat)
  | 0, r => if r = [] then some [] else none
  | k + 1, r => (numR r).bind fun x => (numsE k x.2).map (x.1 :: ·)
def notB (c : UInt8) : Bool := c != 32
def mkS (k : Int) : List Nat → Stp
  | [i] => (k, i, 0, 0, 0, 0)
  | [i, a, b, c, d] => (k, i, a, b, c, d)
  | _ => (k, 0, 0, 0, 0, 0)
def wantN (k : Int) : Nat := if k = 3 then 5 else 1
def oneR (t : List UInt8) : Option Stp :=
  if kindW (t.takeWhile notB) = 0 then none else (numsE (wantN (kindW (t.takeWhile notB))) (t.dropWhile notB)).map (mkS (kindW (t.takeWhile notB)))
/-- The parts between blanks behind a place. -/
def restP : Nat → List UInt8 → List (List UInt8)
  | 0, _ => []
  | _ + 1, [] => []
  | f + 1, _ :: q => q.takeWhile notB :: restP f (q.dropWhile notB)
def parts (t : List UInt8) : List (List UInt8) := t.takeWhile notB :: restP t.length (t.dropWhile notB)
def allN : List (List UInt8) → Option (List Nat)
  | [] => some []
  | p :: r => (numP p).bind fun n => (allN r).map (n :: ·)
def oneP (t : List UInt8) : Option Stp :=
  if kindW (t.takeWhile notB) = 0 ∨ (parts t).length ≠ wantN (kindW (t.takeWhile notB)) + 1 then none else (allN (parts t).tail).map (mkS (kindW (t.takeWhile notB)))

theorem dropWhile_len (p : UInt8 → Bool) : ∀ l : List UInt8, (l.dropWhile p).length ≤ l.length
  | [] => Nat.le_refl _
  | c :: r => by
    rw [List.dropWhile_cons]; split
    · exact Nat.le_succ_of_le (dropWhile_len p r)
    · exact Nat.le_refl _
theorem dropWhile_head (p : UInt8 → Bool) : ∀ l : List UInt8, l.dropWhile p = [] ∨ ∃ c r, l.dropWhile p = c :: r ∧ p c = false
  | [] => Or.inl rfl
  | c :: r => by
    rw [List.dropWhile_cons]; split
    · exact dropWhile_head p r
    · rename_i h; exact Or.inr ⟨c, r, rfl, by simpa using h⟩
theorem nb_head {l : List UInt8} : l.dropWhile notB = [] ∨ ∃ r, l.dropWhile notB = 32 :: r := by
  rcases dropWhile_head notB l with h | ⟨c, r, h, hc⟩
  · exact Or.inl h
  · refine Or.inr ⟨r, ?_⟩; rw [h]; unfold notB at hc; simp at hc; rw [hc]
theorem isD_nb {c : UInt8} (h : isD c = true) : notB c = true := by
  unfold isD at h; unfold notB
  simp only [Bool.and_eq_true, decide_eq_true_eq] at h
  simp only [bne_iff_ne, ne_eq]
  rintro rfl
  exact absurd h.1 (by decide)
theorem digits_blank : ∀ q : List UInt8, q.takeWhile notB = q.takeWhile isD ++ (q.dropWhile isD).takeWhile notB ∧ q.dropWhile notB = (q.dropWhile isD).dropWhile notB
  | [] => ⟨rfl, rfl⟩
  | c :: r => by
    by_cases h : isD c = true
    · have ih := digits_blank r
      rw [List.takeWhile_cons, List.takeWhile_cons, List.dropWhile_cons, List.dropWhile_cons, if_pos h, if_pos h, if_pos (isD_nb h), if_pos (isD_nb h)]
      exact ⟨by rw [ih.1]; rfl, ih.2⟩
    · rw [List.takeWhile_cons (p := isD), List.dropWhile_cons (p := isD), if_neg h, if_neg h]
      exact ⟨rfl, rfl⟩
theorem takeWhile_all (p : UInt8 → Bool) : ∀ l : List UInt8, (l.takeWhile p).all p = true
  | [] => rfl
  | c :: r => by
    rw [List.takeWhile_cons]; split
    · rename_i h; rw [List.all_cons, h, takeWhile_all p r]; rfl
    · rfl
theorem all_app (p : UInt8 → Bool) (a b : List UInt8) : (a ++ b).all p = (a.all p && b.all p) := by simp
theorem rest_nil (f : Nat) : restP f [] = [] := by cases f <;> rfl
theorem nums_rest : ∀ (k f : Nat) (r : List UInt8), r.length ≤ f → (r = [] ∨ ∃ q, r = 32 :: q) → numsE k r = if (restP f r).length = k then allN (restP f r) else none
  | 0, f, r, hf, hr => by
    rcases hr with rfl | ⟨q, rfl⟩
    · rw [rest_nil]; rfl
    · cases f with
      | zero => simp at hf
      | succ f => simp [numsE, restP]
  | k + 1, f, r, hf, hr => by
    rcases hr with rfl | ⟨q, rfl⟩
    · rw [rest_nil]; simp [numsE, numR]
    · cases f with
      | zero => simp at hf
      | succ f =>
        have hq : q.length ≤ f := by simpa using hf
        obtain ⟨e1, e2⟩ := digits_blank q
        show ((numR (32 :: q)).bind fun x => (numsE k x.2).map (x.1 :: ·)) = if (q.takeWhile notB :: restP f (q.dropWhile notB)).length = k + 1 then ((numP (q.takeWhile notB)).bind fun n => (allN (restP f (q.dropWhile notB))).map (n :: ·)) else none
        have hn : numR (32 :: q) = if goodD (q.takeWhile isD) then some (valF 0 (q.takeWhile isD), q.dropWhile isD) else none := rfl
        rw [hn]
        rcases dropWhile_head isD q with h0 | ⟨c, z, h0, hc⟩
        · rw [h0] at e1 e2
          rw [e2, e1, h0]
          rw [show ([] : List UInt8).takeWhile notB = [] from rfl, show ([] : List UInt8).dropWhile notB = [] from rfl, List.append_nil, rest_nil]
          unfold numP
          rw [takeWhile_all, Bool.true_and]
          by_cases hg : goodD (q.takeWhile isD) = true
          · rw [if_pos hg, if_pos hg]; cases k <;> simp [numsE, allN, numR]
          · rw [if_neg hg, if_neg hg]; simp
        · by_cases hb : c = 32
          · subst hb
            rw [h0] at e1 e2
            rw [show ((32 : UInt8) :: z).takeWhile notB = [] from rfl, List.append_nil] at e1
            rw [show ((32 : UInt8) :: z).dropWhile notB = 32 :: z from rfl] at e2
            rw [e1, e2, h0]
            unfold numP
            rw [takeWhile_all, Bool.true_and]
            have hz : (32 :: z).length ≤ f := by rw [← h0]; exact Nat.le_trans (dropWhile_len _ _) hq
            have ih := nums_rest k f (32 :: z) hz (Or.inr ⟨z, rfl⟩)
            by_cases hg : goodD (q.takeWhile isD) = true
            · rw [if_pos hg, if_pos hg]
              show (numsE k (32 :: z)).map _ = _
              rw [ih, List.length_cons]
              by_cases hk : (restP f (32 :: z)).length = k
              · rw [if_pos hk, if_pos (by omega)]; rfl
              · rw [if_neg hk, if_neg (by omega)]; rfl
            · rw [if_neg hg, if_neg hg]; simp
          · have hp : numP (q.takeWhile notB) = none := by
              have hcb : notB c = true := by unfold notB; simpa using hb
              unfold numP
              rw [e1, h0, List.takeWhile_cons, if_pos hcb, all_app, List.all_cons, hc]
              simp
            rw [hp, h0]
            have hx : ∀ n : Nat, (numsE k (c :: z)).map (n :: ·) = none := fun n => by
              cases k with
              | zero => simp [numsE]
              | succ k => simp [numsE, numR, hb]
            by_cases hg : goodD (q.takeWhile isD) = true
            · rw [if_pos hg]
              show (numsE k (c :: z)).map _ = _
              rw [hx]; simp
            · rw [if_neg hg]; simp
theorem one_same (t : List UInt8) : oneP t = oneR t := by
  unfold oneP oneR
  by_cases hk : kindW (t.takeWhile notB) = 0
  · rw [if_pos (Or.inl hk), if_pos hk]
  · rw [if_neg hk, nums_rest _ t.length _ (dropWhile_len _ _) nb_head]
    unfold parts
    rw [List.length_cons, List.tail_cons]
    by_cases hl : (restP t.length (t.dropWhile notB)).length = wantN (kindW (t.takeWhile notB))
    · rw [if_neg (by rintro (h | h); exact hk h; exact h (by omega)), if_pos hl]
    · rw [if_pos (Or.inr (by omega)), if_neg hl]; rfl
/-! Digits and numbers -/
theorem valF_app (l : List UInt8) (c : UInt8) : ∀ n, valF n (l ++ [c]) = valF n l * 10 + (c.toNat - 48) := by
  induction l with
  | nil => intro n; rfl
  | cons a r ih => intro n; exact ih _
theorem valF_ge : ∀ (l : List UInt8) (n : Nat), n * 10 ^ l.length ≤ valF n l
  | [], n => by rw [List.length_nil, Nat.pow_zero, Nat.mul_one]; exact Nat.le_refl n
  | c :: r, n => by
    have ih := valF_ge r (n * 10 + (c.toNat - 48))
    show _ ≤ valF (n * 10 + (c.toNat - 48)) r
    refine Nat.le_trans ?_ ih
    rw [List.length_cons, Nat.pow_succ, Nat.mul_comm (10 ^ r.length) 10, ← Nat.mul_assoc]
    generalize 10 ^ r.length = z
    exact Nat.mul_le_mul_right z (Nat.le_add_right (n * 10) _)
theorem isD_le {c : UInt8} (h : isD c = true) : 48 ≤ c.toNat ∧ c.toNat ≤ 57 := by
  unfold isD at h
  simpa only [Bool.and_eq_true, decide_eq_true_eq] using h
theorem valF_lt : ∀ (l : List UInt8) (n : Nat), l.all isD = true → valF n l < (n + 1) * 10 ^ l.length
  | [], n, _ => by rw [List.length_nil, Nat.pow_zero, Nat.mul_one]; exact Nat.lt_succ_self n
  | c :: r, n, h => by
    rw [List.all_cons, Bool.and_eq_true] at h
    have hc := isD_le h.1
    have ih := valF_lt r (n * 10 + (c.toNat - 48)) h.2
    show valF (n * 10 + (c.toNat - 48)) r < _
    refine Nat.lt_of_lt_of_le ih ?_
    rw [List.length_cons, Nat.pow_succ, Nat.mul_comm (10 ^ r.length) 10, ← Nat.mul_assoc]
    generalize 10 ^ r.length = z
    exact Nat.mul_le_mul_right z (by omega)
theorem ofN {d : Nat} (h : d < 10) : (UInt8.ofNat (48 + d)).toNat = 48 + d := by
  rw [UInt8.toNat_ofNat']; omega
theorem dec_digits (u : Nat) : (decDigits u).all isD = true := by
  induction u using Nat.strongRecOn with
  | _ u ih =>
    rw [decDigits]
    split
    · rename_i h
      simp only [List.all_cons, List.all_nil, Bool.and_true]
      unfold isD; rw [ofN h]; simp; omega
    · rename_i h
      rw [all_app, ih (u / 10) (by omega)]
      simp only [List.all_cons, List.all_nil, Bool.and_true, Bool.true_and]
      unfold isD; rw [ofN (Nat.mod_lt _ (by decide))]; simp; omega
theorem val_dec (u : Nat) : valF 0 (decDigits u) = u := by
  induction u using Nat.strongRecOn with
  | _ u ih =>
    rw [decDigits]
    split
    · rename_i h
      show 0 * 10 + ((UInt8.ofNat (48 + u)).toNat - 48) = u
      rw [ofN h]; omega
    · rename_i h
      rw [valF_app, ih (u / 10) (by omega), ofN (Nat.mod_lt _ (by decide))]; omega
theorem dec_ne (u : Nat) : decDigits u ≠ [] := by
  rw [decDigits]; split <;> simp
theorem headD_app {l : List UInt8} (h : l ≠ []) (r : List UInt8) (d : UInt8) : (l ++ r).headD d = l.headD d := by
  cases l with
  | nil => exact absurd rfl h
  | cons => rfl
theorem dec_head (u : Nat) (h1 : 1 ≤ u) : (decDigits u).headD 0 ≠ 48 := by
  induction u using Nat.strongRecOn with
  | _ u ih =>
    rw [decDigits]
    split
    · rename_i h
      intro h9
      have h8 : (UInt8.ofNat (48 + u)).toNat = 48 := by
        have : UInt8.ofNat (48 + u) = 48 := h9
        rw [this]; rfl
      rw [ofN h] at h8; omega
    · rename_i h
      rw [headD_app (dec_ne _)]
      exact ih (u / 10) (by omega) (by omega)
theorem dec_len1 {u : Nat} (h : u < 10) : (decDigits u).length = 1 := by rw [decDigits, dif_pos h]; rfl
theorem isEmpty_ne {l : List UInt8} (h : l ≠ []) : l.isEmpty = false := by
  cases l with
  | nil => exact absurd rfl h
  | cons => rfl
theorem dec_good {u : Nat} (h : u ≤ 4294967295) : goodD (decDigits u) = true := by
  unfold goodD
  rw [isEmpty_ne (dec_ne u), val_dec, decide_eq_true h]
  by_cases h1 : u < 10
  · rw [dec_len1 h1]; rfl
  · have h2 : ((decDigits u).headD 0 == 48) = false := beq_eq_false_iff_ne.2 (dec_head u (by omega))
    rw [h2]; simp
theorem valF_le (l : List UInt8) (n : Nat) : n ≤ valF n l := by
  refine Nat.le_trans ?_ (valF_ge l n)
  exact Nat.le_mul_of_pos_right _ (Nat.pow_pos (by decide))
theorem val_pos {l : List UInt8} (h0 : l ≠ []) (hd : l.all isD = true) (hh : l.headD 0 ≠ 48) : 1 ≤ valF 0 l := by
  cases l with
  | nil => exact absurd rfl h0
  | cons c r =>
    rw [List.all_cons, Bool.and_eq_true] at hd
    have hc := isD_le hd.1
    refine Nat.le_trans ?_ (valF_le r (0 * 10 + (c.toNat - 48)))
    have : c.toNat ≠ 48 := fun h => hh (UInt8.toNat_inj.1 (by rw [h]; rfl) : c = 48)
    omega
theorem dec_val : ∀ (k : Nat) (d : List UInt8), d.length = k → d ≠ [] → d.all isD = true → (1 < d.length → d.headD 0 ≠ 48) → decDigits (valF 0 d) = d
  | 0, d, hk, h0, _, _ => absurd (List.eq_nil_of_length_eq_zero hk) h0
  | k + 1, d, hk, h0, hd, hh => by
    obtain ⟨l, c, rfl⟩ : ∃ l c, d = l ++ [c] := ⟨d.dropLast, d.getLast h0, (List.dropLast_concat_getLast h0).symm⟩
    rw [all_app, Bool.and_eq_true] at hd
    have hc : isD c = true := by simpa using hd.2
    have hc2 := isD_le hc
    have hof : UInt8.ofNat (48 + (c.toNat - 48)) = c := by
      apply UInt8.toNat_inj.1; rw [ofN (by omega)]; omega
    rw [valF_app]
    by_cases hl : l = []
    · subst hl
      rw [show valF 0 ([] : List UInt8) = 0 from rfl, Nat.zero_mul, Nat.zero_add, decDigits, dif_pos (by omega), hof]; rfl
    · have hlen : l.length = k := by simpa using hk
      have hpos := List.length_pos_iff.2 hl
      have h48 : l.headD 0 ≠ 48 := by rw [← headD_app hl [c]]; exact hh (by rw [List.length_append, List.length_singleton]; omega)
      have hv := val_pos hl hd.1 h48
      rw [decDigits, dif_neg (by omega), show (valF 0 l * 10 + (c.toNat - 48)) / 10 = valF 0 l by omega, show (valF 0 l * 10 + (c.toNat - 48)) % 10 = c.toNat - 48 by omega, hof, dec_val k l hlen hl hd.1 (fun _ => h48)]
theorem good_dec {d : List UInt8} (hd : d.all isD = true) (hg : goodD d = true) : decDigits (valF 0 d) = d ∧ valF 0 d ≤ 4294967295 := by
  unfold goodD at hg
  simp only [Bool.and_eq_true, Bool.not_eq_true', decide_eq_true_eq, Bool.and_eq_false_iff, decide_eq_false_iff_not, beq_eq_false_iff_ne] at hg
  refine ⟨dec_val _ d rfl (fun h => ?_) hd (fun h => ?_), hg.2⟩
  · rw [h] at hg; exact absurd hg.1.1 (by decide)
  · rcases hg.1.2 with h1 | h1
    · exact absurd h h1
    · exact h1
theorem dec_len {u : Nat} : ∀ {k : Nat}, u < 10 ^ (k + 1) → (decDigits u).length ≤ k + 1 := by
  induction u using Nat.strongRecOn with
  | _ u ih =>
    intro k hk
    rw [decDigits]
    split
    · simp
    · rename_i h
      cases k with
      | zero => exact absurd hk (by simpa using Nat.le_of_not_lt h)
      | succ k =>
        have := ih (u / 10) (by omega) (k := k) (by rw [Nat.pow_succ] at hk; omega)
        rw [List.length_append, List.length_singleton]; omega
/-- Long texts of digits are no numbers: what the program asks ahead. -/
theorem good_long {d : List UInt8} (hd : d.all isD = true) (hl : 10 < d.length) : goodD d = false := by
  by_cases hg : goodD d = true
  · have h1 := good_dec hd hg
    have h2 := dec_len (u := valF 0 d) (k := 9) (by have := h1.2; omega)
    rw [h1.1] at h2; omega
  · simpa using hg
/-! What is printed is parsed as it was -/
def hd32 (r : List UInt8) : Prop := r = [] ∨ ∃ q, r = 32 :: q
theorem hd32_flat (l : List Nat) : hd32 (l.flatMap spD) := by
  cases l with
  | nil => exact Or.inl rfl
  | cons a l => exact Or.inr ⟨_, rfl⟩
theorem takeWhile_app {p : UInt8 → Bool} : ∀ {a : List UInt8} {r : List UInt8}, a.all p = true → (r = [] ∨ ∃ c q, r = c :: q ∧ p c = false) → (a ++ r).takeWhile p = a ∧ (a ++ r).dropWhile p = r
  | [], r, _, hr => by
    rcases hr with rfl | ⟨c, q, rfl, hc⟩
    · exact ⟨rfl, rfl⟩
    · rw [List.nil_append, List.takeWhile_cons, List.dropWhile_cons, if_neg (by rw [hc]; decide), if_neg (by rw [hc]; decide)]; exact ⟨rfl, rfl⟩
  | c :: a, r, h, hr => by
    rw [List.all_cons, Bool.and_eq_true] at h
    have ih := takeWhile_app (a := a) (r := r) h.2 hr
    rw [List.cons_append, List.takeWhile_cons, List.dropWhile_cons, if_pos h.1, if_pos h.1, ih.1]
    exact ⟨rfl, ih.2⟩
theorem hd32_p {r : List UInt8} {p : UInt8 → Bool} (hp : p 32 = false) (h : hd32 r) : r = [] ∨ ∃ c q, r = c :: q ∧ p c = false := by
  rcases h with h | ⟨q, h⟩
  · exact Or.inl h
  · exact Or.inr ⟨32, q, h, hp⟩
theorem numR_sp {n : Nat} (h : n ≤ 4294967295) {r : List UInt8} (hr : hd32 r) : numR (spD n ++ r) = some (n, r) := by
  obtain ⟨h1, h2⟩ := takeWhile_app (a := decDigits n) (r := r) (dec_digits n) (hd32_p (by decide) hr)
  show (if (32 : UInt8) = 32 then (if goodD ((decDigits n ++ r).takeWhile isD) then some (valF 0 ((decDigits n ++ r).takeWhile isD), (decDigits n ++ r).dropWhile isD) else none) else none) = _
  rw [if_pos rfl, h1, h2, dec_good h, if_pos rfl, val_dec]
theorem nums_sp : ∀ l : List Nat, (∀ n ∈ l, n ≤ 4294967295) → numsE l.length (l.flatMap spD) = some l
  | [], _ => rfl
  | n :: l, h => by
    show (numR (spD n ++ l.flatMap spD)).bind _ = _
    rw [numR_sp (h n (List.mem_cons_self ..)) (hd32_flat l)]
    show (numsE l.length (l.flatMap spD)).map _ = _
    rw [nums_sp l (fun m hm => h m (List.mem_cons_of_mem _ hm))]; rfl
theorem nums_back : ∀ (k : Nat) (r : List UInt8) (l : List Nat), numsE k r = some l → r = l.flatMap spD ∧ l.length = k ∧ ∀ n ∈ l, n ≤ 4294967295
  | 0, r, l, h => by
    unfold numsE at h
    split at h
    · rename_i hr; cases h; exact ⟨by rw [hr]; rfl, rfl, fun n hn => by cases hn⟩
    · cases h
  | k + 1, r, l, h => by
    unfold numsE at h
    cases r with
    | nil => simp [numR] at h
    | cons c q =>
      rw [show numR (c :: q) = (if c = 32 then (if goodD (q.takeWhile isD) then some (valF 0 (q.takeWhile isD), q.dropWhile isD) else none) else none) from rfl] at h
      by_cases hc : c = 32
      · subst hc
        rw [if_pos rfl] at h
        by_cases hg : goodD (q.takeWhile isD) = true
        · rw [if_pos hg] at h
          have hd := good_dec (takeWhile_all isD q) hg
          simp only [Option.bind_some, Option.map_eq_some_iff] at h
          obtain ⟨m, hm, rfl⟩ := h
          obtain ⟨e, hk, hb⟩ := nums_back k _ m hm
          refine ⟨?_, by rw [List.length_cons, hk], fun n hn => ?_⟩
          · rw [List.flatMap_cons, ← e]
            show 32 :: q = 32 :: (decDigits _ ++ _)
            rw [hd.1, List.takeWhile_append_dropWhile]
          · rcases List.mem_cons.1 hn with rfl | hn
            · exact hd.2
            · exact hb n hn
        · rw [if_neg hg] at h; cases h
      · rw [if_neg hc] at h; cases h
def Fit (s : Stp) : Prop := s.2.1 ≤ 4294967295 ∧ s.2.2.1 ≤ 4294967295 ∧ s.2.2.2.1 ≤ 4294967295 ∧ s.2.2.2.2.1 ≤ 4294967295 ∧ s.2.2.2.2.2 ≤ 4294967295
theorem wdK_nb {k : Int} : (wdK k).all notB = true ∧ (wdK k).all (fun c => c != 10) = true ∧ (wdK k).length ≤ 9 := by
  unfold wdK
  split
  · exact ⟨by decide, by decide, by decide⟩
  · split
    · exact ⟨by decide, by decide, by decide⟩
    · split
      · exact ⟨by decide, by decide, by decide⟩
      · exact ⟨by decide, by decide, by decide⟩
theorem kind_wd {k : Int} (h1 : 1 ≤ k) (h2 : k ≤ 4) : kindW (wdK k) = k := by
  have : k = 1 ∨ k = 2 ∨ k = 3 ∨ k = 4 := by omega
  rcases this with rfl | rfl | rfl | rfl <;> decide
theorem wd_kind {w : List UInt8} (h : kindW w ≠ 0) : w = wdK (kindW w) ∧ 1 ≤ kindW w ∧ kindW w ≤ 4 := by
  unfold kindW at h ⊢
  split
  · rename_i e; exact ⟨e, by decide, by decide⟩
  · split
    · rename_i e; exact ⟨e, by decide, by decide⟩
    · split
      · rename_i e; exact ⟨e, by decide, by decide⟩
      · split
        · rename_i e; exact ⟨e, by decide, by decide⟩
        · rename_i a b c d; rw [if_neg a, if_neg b, if_neg c, if_neg d] at h; exact absurd rfl h
/-- The numbers of a step's line. -/
def numsOf (s : Stp) : List Nat := if s.1 = 3 then [s.2.1, s.2.2.1, s.2.2.2.1, s.2.2.2.2.1, s.2.2.2.2.2] else [s.2.1]
theorem lineT_eq (s : Stp) : lineT s = joinT (wdK s.1) (numsOf s) := by
  unfold lineT numsOf
  split
  · rename_i h; rw [h]; rfl
  · rfl
theorem one_line {s : Stp} (hf : Fit s) (he : lineE s = 0) : oneR (lineT s) = some s := by
  obtain ⟨f1, f2, f3, f4, f5⟩ := hf
  have hk : 1 ≤ s.1 ∧ s.1 ≤ 4 := by
    unfold lineE at he
    split at he
    · cases he
    · omega
  rw [lineT_eq]
  unfold joinT
  obtain ⟨t1, t2⟩ := takeWhile_app (p := notB) (a := wdK s.1) (r := (numsOf s).flatMap spD) wdK_nb.1 (hd32_p (by decide) (hd32_flat _))
  unfold oneR
  rw [t1, t2, kind_wd hk.1 hk.2, if_neg (by omega)]
  unfold wantN numsOf
  by_cases h3 : s.1 = 3
  · rw [if_pos h3, if_pos h3]
    have := nums_sp [s.2.1, s.2.2.1, s.2.2.2.1, s.2.2.2.2.1, s.2.2.2.2.2] (fun n hn => by simp only [List.mem_cons, List.not_mem_nil, or_false] at hn; rcases hn with rfl | rfl | rfl | rfl | rfl <;> assumption)
    rw [show List.length [s.2.1, s.2.2.1, s.2.2.2.1, s.2.2.2.2.1, s.2.2.2.2.2] = 5 from rfl] at this
    rw [this]; rfl
  · rw [if_neg h3, if_neg h3]
    have := nums_sp [s.2.1] (fun n hn => by simp only [List.mem_cons, List.not_mem_nil, or_false] at hn; rcases hn with rfl; assumption)
    rw [show List.length [s.2.1] = 1 from rfl] at this
    rw [this]
    unfold lineE at he
    rw [if_neg (by omega), if_neg h3] at he
    have hb : bare s := by
      by_cases hb : bare s
      · exact hb
      · rw [if_neg hb] at he; cases he
    obtain ⟨k, i, a, b, c, d⟩ := s
    obtain ⟨rfl, rfl, rfl, rfl⟩ : a = 0 ∧ b = 0 ∧ c = 0 ∧ d = 0 := hb
    rfl
theorem line_one {t : List UInt8} {s : Stp} (h : oneR t = some s) : lineE s = 0 ∧ lineT s = t ∧ Fit s := by
  unfold oneR at h
  split at h
  · cases h
  · rename_i hk
    obtain ⟨e, k1, k4⟩ := wd_kind hk
    obtain ⟨l, hl, rfl⟩ := Option.map_eq_some_iff.1 h
    obtain ⟨er, hlen, hb⟩ := nums_back _ _ l hl
    have et : t = wdK (kindW (t.takeWhile notB)) ++ l.flatMap spD := by rw [← er, ← e, List.takeWhile_append_dropWhile]
    generalize kindW (t.takeWhile notB) = k at *
    unfold wantN at hlen
    by_cases h3 : k = 3
    · rw [if_pos h3] at hlen
      match l, hlen with
      | [i, a, b, c, d], _ =>
        refine ⟨?_, ?_, hb i (by simp), hb a (by simp), hb b (by simp), hb c (by simp), hb d (by simp)⟩
        · unfold lineE mkS; rw [if_neg (by show ¬ (k < 1 ∨ 4 < k); omega), if_pos h3]
        · rw [lineT_eq, et]; unfold joinT numsOf mkS; rw [if_pos h3]
    · rw [if_neg h3] at hlen
      match l, hlen with
      | [i], _ =>
        refine ⟨?_, ?_, hb i (by simp), by show (0 : Nat) ≤ _; omega, by show (0 : Nat) ≤ _; omega, by show (0 : Nat) ≤ _; omega, by show (0 : Nat) ≤ _; omega⟩
        · unfold lineE mkS; rw [if_neg (by show ¬ (k < 1 ∨ 4 < k); omega), if_neg h3, if_pos ⟨rfl, rfl, rfl, rfl⟩]
        · rw [lineT_eq, et]; unfold joinT numsOf mkS; rw [if_neg h3]
theorem isD_ne10 {c : UInt8} (h : isD c = true) : (c != 10) = true := by
  have := (isD_le h).1
  simp only [bne_iff_ne, ne_eq]; rintro rfl; exact absurd this (by decide)
theorem all_mono {p q : UInt8 → Bool} (h : ∀ c, p c = true → q c = true) : ∀ {l : List UInt8}, l.all p = true → l.all q = true
  | [], _ => rfl
  | c :: r, hl => by
    rw [List.all_cons, Bool.and_eq_true] at hl ⊢
    exact ⟨h c hl.1, all_mono h hl.2⟩
theorem flat_ne10 : ∀ l : List Nat, (l.flatMap spD).all (fun c => c != 10) = true
  | [] => rfl
  | n :: l => by
    rw [List.flatMap_cons, all_app, flat_ne10 l, Bool.and_true]
    show (((32 : UInt8) != 10) && (decDigits n).all (fun c => c != 10)) = true
    rw [all_mono (fun c h => isD_ne10 h) (dec_digits n)]; rfl
theorem line_ne10 (s : Stp) : (lineT s).all (fun c => c != 10) = true := by
  rw [lineT_eq]; unfold joinT; rw [all_app, wdK_nb.2.1, flat_ne10]; rfl
theorem flat_len : ∀ l : List Nat, (∀ n ∈ l, n ≤ 4294967295) → (l.flatMap spD).length ≤ 11 * l.length
  | [], _ => by simp
  | n :: l, h => by
    have h1 := flat_len l (fun m hm => h m (List.mem_cons_of_mem _ hm))
    have h2 := dec_len (u := n) (k := 9) (by have := h n (List.mem_cons_self ..); omega)
    rw [List.flatMap_cons, List.length_append]
    show (decDigits n).length + 1 + _ ≤ 11 * (l.length + 1)
    omega
theorem line_len {s : Stp} (hf : Fit s) : (lineT s).length ≤ 70 := by
  rw [lineT_eq]; unfold joinT
  rw [List.length_append]
  have h1 := (wdK_nb (k := s.1)).2.2
  have h2 := flat_len (numsOf s) (fun n hn => by
    unfold numsOf at hn
    obtain ⟨f1, f2, f3, f4, f5⟩ := hf
    split at hn
    · simp only [List.mem_cons, List.not_mem_nil, or_false] at hn; rcases hn with rfl | rfl | rfl | rfl | rfl <;> assumption
    · simp only [List.mem_cons, List.not_mem_nil, or_false] at hn; rcases hn with rfl; assumption)
  have h3 : (numsOf s).length ≤ 5 := by unfold numsOf; split <;> simp
  omega
/-! Lines -/
def parseA (cur : List UInt8) (line : Nat) (acc : List Stp) : List UInt8 → List Stp × Nat × Int
  | [] => if cur = [] then (acc, 0, 0) else ([], line, 60)
  | c :: r => if c = 10 then (match oneR cur with
      | none => ([], line, 60)
      | some s => parseA [] (line + 1) (acc ++ [s]) r)
    else parseA (cur ++ [c]) line acc r
def parseT (t : List UInt8) : List Stp × Nat × Int := if 20000 < t.length then ([], 0, 5) else parseA [] 1 [] t
def printT (l : List Stp) : List UInt8 := l.flatMap fun s => lineT s ++ [10]
def printE : List Stp → Int
  | [] => 0
  | s :: r => if lineE s = 0 then printE r else lineE s
theorem parse_line : ∀ (b cur r : List UInt8) (line : Nat) (acc : List Stp), b.all (fun c => c != 10) = true → parseA cur line acc (b ++ 10 :: r) = match oneR (cur ++ b) with | none => ([], line, 60) | some s => parseA [] (line + 1) (acc ++ [s]) r
  | [], cur, r, line, acc, _ => by rw [List.append_nil]; rfl
  | c :: b, cur, r, line, acc, h => by
    rw [List.all_cons, Bool.and_eq_true] at h
    have hc : ¬ c = 10 := by simpa using h.1
    show (if c = 10 then _ else parseA (cur ++ [c]) line acc (b ++ 10 :: r)) = _
    rw [if_neg hc, parse_line b (cur ++ [c]) r line acc h.2, List.append_assoc]; rfl
theorem parse_tail : ∀ (b cur : List UInt8) (line : Nat) (acc : List Stp), b.all (fun c => c != 10) = true → parseA cur line acc b = if cur ++ b = [] then (acc, 0, 0) else ([], line, 60)
  | [], cur, line, acc, _ => by rw [List.append_nil]; rfl
  | c :: b, cur, line, acc, h => by
    rw [List.all_cons, Bool.and_eq_true] at h
    have hc : ¬ c = 10 := by simpa using h.1
    show (if c = 10 then _ else parseA (cur ++ [c]) line acc b) = _
    rw [if_neg hc, parse_tail b (cur ++ [c]) line acc h.2, List.append_assoc]; rfl
theorem parse_print : ∀ (l : List Stp) (line : Nat) (acc : List Stp), (∀ s ∈ l, Fit s) → printE l = 0 → parseA [] line acc (printT l) = (acc ++ l, 0, 0)
  | [], line, acc, _, _ => by rw [List.append_nil]; rfl
  | s :: l, line, acc, hf, he => by
    have hs : lineE s = 0 := by
      unfold printE at he
      split at he
      · assumption
      · assumption
    have hl : printE l = 0 := by unfold printE at he; rwa [if_pos hs] at he
    rw [show printT (s :: l) = lineT s ++ 10 :: printT l by unfold printT; rw [List.flatMap_cons, List.append_assoc]; rfl, parse_line _ _ _ _ _ (line_ne10 s), List.nil_append, one_line (hf s (List.mem_cons_self ..)) hs]
    show parseA [] (line + 1) (acc ++ [s]) (printT l) = _
    rw [parse_print l (line + 1) (acc ++ [s]) (fun x hx => hf x (List.mem_cons_of_mem _ hx)) hl, List.append_assoc]; rfl
theorem print_parse : ∀ (t cur : List UInt8) (line : Nat) (acc : List Stp), (parseA cur line acc t).2.2 = 0 ∧ (parseA cur line acc t).2.1 = 0 ∧ (∃ l, (parseA cur line acc t).1 = acc ++ l ∧ cur ++ t = printT l ∧ printE l = 0 ∧ ∀ s ∈ l, Fit s) ∨ (parseA cur line acc t).2.2 = 60 ∧ (parseA cur line acc t).1 = []
  | [], cur, line, acc => by
    show (if cur = [] then (acc, 0, 0) else ([], line, 60) : List Stp × Nat × Int).2.2 = 0 ∧ _ ∨ _
    unfold parseA
    by_cases h : cur = []
    · rw [if_pos h]; exact Or.inl ⟨rfl, rfl, [], by rw [List.append_nil], by rw [h]; rfl, rfl, fun s hs => by cases hs⟩
    · rw [if_neg h]; exact Or.inr ⟨rfl, rfl⟩
  | c :: r, cur, line, acc => by
    unfold parseA
    by_cases hc : c = 10
    · rw [if_pos hc]
      cases ho : oneR cur with
      | none => exact Or.inr ⟨rfl, rfl⟩
      | some s =>
        obtain ⟨l1, l2, l3⟩ := line_one ho
        rcases print_parse r [] (line + 1) (acc ++ [s]) with ⟨h1, h2, l, h3, h4, h5, h6⟩ | h
        · refine Or.inl ⟨h1, h2, s :: l, by rw [show (match some s with | none => (([], line, 60) : List Stp × Nat × Int) | some s => parseA [] (line + 1) (acc ++ [s]) r) = parseA [] (line + 1) (acc ++ [s]) r from rfl, h3, List.append_assoc]; rfl, ?_, ?_, ?_⟩
          · rw [show printT (s :: l) = lineT s ++ 10 :: printT l by unfold printT; rw [List.flatMap_cons, List.append_assoc]; rfl, l2, ← h4, hc]; rfl
          · unfold printE; rw [if_pos l1]; exact h5
          · intro x hx
            rcases List.mem_cons.1 hx with rfl | hx
            · exact l3
            · exact h6 x hx
        · exact Or.inr h
    · rw [if_neg hc]
      rcases print_parse r (cur ++ [c]) line acc with ⟨h1, h2, l, h3, h4, h5, h6⟩ | h
      · exact Or.inl ⟨h1, h2, l, h3, by rw [← h4, List.append_assoc]; rfl, h5, h6⟩
      · exact Or.inr h
theorem print_len : ∀ l : List Stp, (∀ s ∈ l, Fit s) → (printT l).length ≤ 71 * l.length
  | [], _ => by simp [printT]
  | s :: l, h => by
    have h1 := print_len l (fun x hx => h x (List.mem_cons_of_mem _ hx))
    have h2 := line_len (h s (List.mem_cons_self ..))
    rw [show printT (s :: l) = (lineT s ++ [10]) ++ printT l by unfold printT; rw [List.flatMap_cons], List.length_append, List.length_append]
    simp only [List.length_cons, List.length_nil]
    omega
/-- What is printed is parsed as it was. -/
theorem back1 {l : List Stp} (hl : l.length ≤ 60) (hf : ∀ s ∈ l, Fit s) (he : printE l = 0) : parseT (printT l) = (l, 0, 0) := by
  unfold parseT
  have := print_len l hf
  rw [if_neg (by omega), parse_print l 1 [] hf he, List.nil_append]
/-- What is parsed is printed so. -/
theorem back2 (t : List UInt8) : (parseT t).2.2 = 0 ∧ (parseT t).2.1 = 0 ∧ printT (parseT t).1 = t ∧ printE (parseT t).1 = 0 ∨ (parseT t).2.2 ≠ 0 ∧ (parseT t).1 = [] := by
  unfold parseT
  split
  · exact Or.inr ⟨by decide, rfl⟩
  · rcases print_parse t [] 1 [] with ⟨h1, h2, l, h3, h4, h5, h6⟩ | h
    · rw [h3]; exact Or.inl ⟨h1, h2, by rw [← List.nil_append t, h4]; rfl, h5⟩
    · exact Or.inr ⟨by rw [h.1]; decide, h.2⟩
end Go.Proofs.YtoopekjbikcebaaDoor
