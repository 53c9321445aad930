import Derived.WalkKit
namespace Go.Proofs.YtpaekplhcjleaaaGreatDoor
namespace I

/-- An abstract value: addresses by number of an abstract block, texts as numbers, rows of cells as binary trees. -/
inductive AV where
  | bad
  | undef
  | bool (b : Bool)
  | int (k : IntKind) (n : Int)
  | str (n x : Nat)
  | nilp
  | ptr (b off : Nat)
  | nils
  | sl (b off len lb sz : Nat)
  | nilm
  | map (b : Nat)
  | nilf
  | fn (f : Nat) (first caps : AV)
  | nili
  | ifc (t : Nat) (v : AV)
  | agg (n : Nat) (t : AV)
  | tup (l : AV)
  | lnil
  | lcons (h t : AV)
  | node (l r : AV)
  | uni (v : AV)
  | dead
  | cells (ty n : Nat) (ro : Bool) (t : AV)
  | mp (l : AV)
  | yld (b : Nat)
  | lp (n : Nat) (ps : List Nat) (assign body : Code) (tm : AV) (st pend db : Nat)
  | df
  deriving Inhabited

/-- Cell i of a tree of depth d. -/
def cget : Nat → AV → Nat → AV
  | 0, t, _ => t
  | d + 1, .node l r, i => bif Nat.blt i (2 ^ d) then cget d l i else cget d r (i - 2 ^ d)
  | _ + 1, .uni v, _ => v
  | _ + 1, _, _ => .undef

def unid : Nat → AV → AV
  | 0, v => v
  | _ + 1, v => .uni v

def kidL : Nat → AV → AV
  | _, .node l _ => l
  | d, .uni v => unid d v
  | d, _ => unid d .undef

def kidR : Nat → AV → AV
  | _, .node _ r => r
  | d, .uni v => unid d v
  | d, _ => unid d .undef

def cput : Nat → AV → Nat → AV → AV
  | 0, _, _, v => v
  | d + 1, t, i, v => bif Nat.blt i (2 ^ d) then .node (cput d (kidL d t) i v) (kidR d t) else .node (kidL d t) (cput d (kidR d t) (i - 2 ^ d) v)

/-- The tree of depth k whose cells are those of t (depth d) from off on; k ≤ d, off a multiple of 2 ^ k. -/
def csub : Nat → Nat → AV → Nat → AV
  | 0, _, t, _ => t
  | d + 1, k, t, off => bif Nat.beq (d + 1) k then t else bif Nat.blt off (2 ^ d) then csub d k (kidL d t) off else csub d k (kidR d t) (off - 2 ^ d)

/-- A tree of depth k of the cells f off, f (off + 1) .. (n of them). -/
def cmk (f : Nat → AV) : Nat → Nat → Nat → AV
  | 0, off, n => bif Nat.beq n 0 then .undef else f off
  | k + 1, off, n => bif Nat.beq n 0 then .uni .undef else .node (cmk f k off (bif Nat.ble n (2 ^ k) then n else 2 ^ k)) (cmk f k (off + 2 ^ k) (n - 2 ^ k))

def lg (n : Nat) : Nat := bif Nat.ble n 1 then 0 else Nat.log2 (n - 1) + 1

/-- Both the same byte. -/
def juni (x y : Option AV) : Option AV :=
  match x with
  | some (.int .u8 (.ofNat a)) => match y with
    | some (.int .u8 (.ofNat b)) => bif Nat.beq a b then some (.int .u8 (.ofNat a)) else none
    | _ => none
  | _ => none

/-- What all cells from i on, n of them, are, where it is seen that they are alike. -/
def cuni : Nat → AV → Nat → Nat → Option AV
  | 0, t, _, _ => some t
  | _ + 1, .uni v, _, _ => some v
  | d + 1, .node l r, i, n => bif Nat.ble (i + n) (2 ^ d) then cuni d l i n else bif Nat.ble (2 ^ d) i then cuni d r (i - 2 ^ d) n else juni (cuni d l i (2 ^ d - i)) (cuni d r 0 (i + n - 2 ^ d))
  | _ + 1, _, _, _ => none

/-- The cells of s (depth k) from i on, as a tree of depth d. -/
def cseg (k : Nat) (s : AV) : Nat → Nat → AV
  | 0, i => cget k s i
  | d + 1, i => match cuni k s i (2 ^ (d + 1)) with
    | some v => .uni v
    | none => .node (cseg k s d i) (cseg k s d (i + 2 ^ d))

/-- Write n cells of s (depth k), from number i on, at off. -/
def cwr (k : Nat) (s : AV) : Nat → Nat → Nat → Nat → AV → AV
  | 0, n, i, _, t => bif Nat.beq n 0 then t else cget k s i
  | d + 1, n, i, off, t => bif Nat.beq n 0 then t else
    bif Nat.beq off 0 && Nat.ble (2 ^ (d + 1)) n then cseg k s (d + 1) i else
    bif Nat.ble (2 ^ d) off then .node (kidL d t) (cwr k s d n i (off - 2 ^ d) (kidR d t)) else
    bif Nat.ble (off + n) (2 ^ d) then .node (cwr k s d n i off (kidL d t)) (kidR d t) else
    .node (cwr k s d (2 ^ d - off) i off (kidL d t)) (cwr k s d (n - (2 ^ d - off)) (i + (2 ^ d - off)) 0 (kidR d t))

/-- n cells from off on, as a tree of depth lg n. -/
def crow (d : Nat) (t : AV) (off n : Nat) : AV :=
  bif Nat.beq (off % 2 ^ lg n) 0 && Nat.ble (lg n) d then csub d (lg n) t off else cseg d t (lg n) off

/-- Put the subtree s (depth k) at off, a multiple of 2 ^ k. -/
def cputs : Nat → Nat → AV → Nat → AV → AV
  | 0, _, _, _, s => s
  | d + 1, k, t, off, s => bif Nat.beq (d + 1) k then s else
    bif Nat.blt off (2 ^ d) then .node (cputs d k (kidL d t) off s) (kidR d t) else .node (kidL d t) (cputs d k (kidR d t) (off - 2 ^ d) s)

def cwrite (d k : Nat) (s : AV) (n i off : Nat) (t : AV) : AV := cwr k s d n i off t

def cblit (d : Nat) (t : AV) (off n : Nat) (s : AV) : AV :=
  bif Nat.beq n (2 ^ lg n) && (Nat.beq (off % 2 ^ lg n) 0 && Nat.ble (lg n) d) then cputs d (lg n) t off s else cwrite d (lg n) s n 0 off t

/-! ### What they hold -/

theorem blt_iff {a b : Nat} : Nat.blt a b = true ↔ a < b := ⟨fun h => Nat.lt_of_succ_le (Nat.le_of_ble_eq_true h), fun h => Nat.ble_eq_true_of_le h⟩
theorem blt_false {a b : Nat} : Nat.blt a b = false ↔ b ≤ a := by
  constructor
  · intro h; apply Nat.le_of_not_lt; intro hh; rw [blt_iff.2 hh] at h; cases h
  · intro h; cases hb : Nat.blt a b with
    | false => rfl
    | true => have := blt_iff.1 hb; omega
theorem ble_iff {a b : Nat} : Nat.ble a b = true ↔ a ≤ b := ⟨Nat.le_of_ble_eq_true, Nat.ble_eq_true_of_le⟩
theorem beqn_iff {a b : Nat} : Nat.beq a b = true ↔ a = b := ⟨Nat.eq_of_beq_eq_true, fun h => by rw [h]; exact Nat.beq_refl b⟩

theorem cget_unid (d : Nat) (v : AV) (i : Nat) : cget d (unid d v) i = v := by cases d <;> rfl

theorem cget_kids (d : Nat) (t : AV) (i : Nat) : cget (d + 1) t i = bif Nat.blt i (2 ^ d) then cget d (kidL d t) i else cget d (kidR d t) (i - 2 ^ d) := by
  cases t <;> simp only [cget, kidL, kidR, cget_unid, Bool.cond_self]

theorem cget_cput : ∀ (d : Nat) (t : AV) (i j : Nat) (v : AV), i < 2 ^ d → j < 2 ^ d → cget d (cput d t i v) j = if j = i then v else cget d t j
  | 0, t, i, j, v, hi, hj => by
    simp only [Nat.pow_zero] at hi hj
    have : j = i := by omega
    simp [this, cget, cput]
  | d + 1, t, i, j, v, hi, hj => by
    have hp : 2 ^ (d + 1) = 2 ^ d + 2 ^ d := by rw [Nat.pow_succ]; omega
    rw [cget_kids d t j]
    unfold cput
    cases hb : Nat.blt i (2 ^ d) with
    | true =>
      have hb' := blt_iff.1 hb
      simp only [cond_true]
      rw [cget_kids]
      simp only [kidL, kidR]
      cases hc : Nat.blt j (2 ^ d) with
      | true => simp only [cond_true]; rw [cget_cput d _ _ _ _ hb' (blt_iff.1 hc)]
      | false =>
        have := blt_false.1 hc
        simp only [cond_false]; rw [if_neg (by omega)]
    | false =>
      have hb' := blt_false.1 hb
      simp only [cond_false]
      rw [cget_kids]
      simp only [kidL, kidR]
      cases hc : Nat.blt j (2 ^ d) with
      | true =>
        have := blt_iff.1 hc
        simp only [cond_true]; rw [if_neg (by omega)]
      | false =>
        have := blt_false.1 hc
        simp only [cond_false]
        rw [cget_cput d _ _ _ _ (by omega) (by omega)]
        by_cases hji : j = i
        · simp [hji]
        · rw [if_neg (by omega), if_neg hji]

theorem mul_le_of {k d off : Nat} (hk : k ≤ d) (hm : off % 2 ^ k = 0) (ho : off < 2 ^ d) : off + 2 ^ k ≤ 2 ^ d := by
  obtain ⟨c, rfl⟩ := Nat.dvd_of_mod_eq_zero hm
  have hp : 2 ^ d = 2 ^ k * 2 ^ (d - k) := by rw [← Nat.pow_add]; congr 1; omega
  rw [hp] at ho ⊢
  have := Nat.lt_of_mul_lt_mul_left ho
  calc 2 ^ k * c + 2 ^ k = 2 ^ k * (c + 1) := by rw [Nat.mul_add, Nat.mul_one]
    _ ≤ 2 ^ k * 2 ^ (d - k) := Nat.mul_le_mul_left _ this

theorem mod_sub {k d off : Nat} (hk : k ≤ d) (hm : off % 2 ^ k = 0) (ho : 2 ^ d ≤ off) : (off - 2 ^ d) % 2 ^ k = 0 := by
  have h1 : 2 ^ d = 2 ^ k * 2 ^ (d - k) := by rw [← Nat.pow_add]; congr 1; omega
  obtain ⟨c, rfl⟩ := Nat.dvd_of_mod_eq_zero hm
  rw [h1, ← Nat.mul_sub]
  exact Nat.mul_mod_right _ _

theorem cget_csub : ∀ (d k : Nat) (t : AV) (off i : Nat), k ≤ d → off % 2 ^ k = 0 → off + 2 ^ k ≤ 2 ^ d → i < 2 ^ k → cget k (csub d k t off) i = cget d t (off + i)
  | 0, k, t, off, i, hk, hm, ho, hi => by
    have : k = 0 := by omega
    subst this
    simp [csub, cget]
  | d + 1, k, t, off, i, hk, hm, ho, hi => by
    have hp : 2 ^ (d + 1) = 2 ^ d + 2 ^ d := by rw [Nat.pow_succ]; omega
    unfold csub
    cases he : Nat.beq (d + 1) k with
    | true =>
      have := beqn_iff.1 he
      subst this
      have : off = 0 := by omega
      simp [this]
    | false =>
      have hne : d + 1 ≠ k := fun h => by rw [beqn_iff.2 h] at he; cases he
      have hkd : k ≤ d := by omega
      simp only [cond_false]
      rw [cget_kids d t]
      cases hb : Nat.blt off (2 ^ d) with
      | true =>
        have hb' := blt_iff.1 hb
        have hle := mul_le_of hkd hm hb'
        simp only [cond_true]
        rw [cget_csub d k _ off i hkd hm hle hi, blt_iff.2 (by omega), cond_true]
      | false =>
        have hb' := blt_false.1 hb
        simp only [cond_false]
        rw [cget_csub d k _ (off - 2 ^ d) i hkd (mod_sub hkd hm hb') (by omega) hi, blt_false.2 (by omega), cond_false]
        congr 1; omega

theorem cget_cmk (f : Nat → AV) : ∀ (k off n i : Nat), n ≤ 2 ^ k → i < n → cget k (cmk f k off n) i = f (off + i)
  | 0, off, n, i, hn, hi => by
    have : n = 1 := by simp only [Nat.pow_zero] at hn; omega
    subst this
    have : i = 0 := by omega
    subst this
    rfl
  | k + 1, off, n, i, hn, hi => by
    have hp : 2 ^ (k + 1) = 2 ^ k + 2 ^ k := by rw [Nat.pow_succ]; omega
    unfold cmk
    have hne : Nat.beq n 0 = false := by
      cases hb : Nat.beq n 0 with
      | false => rfl
      | true => have := beqn_iff.1 hb; omega
    rw [hne, cond_false, cget_kids]
    simp only [kidL, kidR]
    cases hb : Nat.blt i (2 ^ k) with
    | true =>
      have := blt_iff.1 hb
      simp only [cond_true]
      cases hc : Nat.ble n (2 ^ k) with
      | true => simp only [cond_true]; exact cget_cmk f k off n i (ble_iff.1 hc) hi
      | false => simp only [cond_false]; exact cget_cmk f k off (2 ^ k) i (Nat.le_refl _) this
    | false =>
      have := blt_false.1 hb
      simp only [cond_false]
      rw [cget_cmk f k (off + 2 ^ k) (n - 2 ^ k) (i - 2 ^ k) (by omega) (by omega)]
      congr 1; omega

theorem lg_le (n : Nat) : n ≤ 2 ^ lg n := by
  unfold lg
  cases hb : Nat.ble n 1 with
  | true => have := ble_iff.1 hb; simpa using this
  | false =>
    have h1 : ¬ n ≤ 1 := fun h => by rw [ble_iff.2 h] at hb; cases hb
    simp only [cond_false]
    have := Nat.lt_log2_self (n := n - 1)
    omega

theorem cuni_node (d : Nat) (l r : AV) (i n : Nat) : cuni (d + 1) (.node l r) i n = cond (Nat.ble (i + n) (2 ^ d)) (cuni d l i n) (cond (Nat.ble (2 ^ d) i) (cuni d r (i - 2 ^ d) n) (juni (cuni d l i (2 ^ d - i)) (cuni d r 0 (i + n - 2 ^ d)))) := rfl

theorem juni_ok {x y : Option AV} {v : AV} (h : juni x y = some v) : x = some v ∧ y = some v := by
  unfold juni at h
  split at h
  · rename_i a
    split at h
    · rename_i b
      cases hb : Nat.beq a b with
      | true =>
        have : a = b := Nat.eq_of_beq_eq_true hb
        subst this
        simp only [hb, cond_true, Option.some.injEq] at h
        subst h
        exact ⟨rfl, rfl⟩
      | false => simp [hb] at h
    · cases h
  · cases h

theorem cuni_ok : ∀ (d : Nat) (t : AV) (i n : Nat) (v : AV), cuni d t i n = some v → ∀ j, i ≤ j → j < i + n → cget d t j = v
  | 0, t, i, n, v, h, j, _, _ => by simp only [cuni, Option.some.injEq] at h; exact h
  | d + 1, t, i, n, v, h, j, h1, h2 => by
    cases t with
    | node l r =>
      rw [cuni_node] at h
      simp only [cget]
      cases hb : Nat.ble (i + n) (2 ^ d) with
      | true =>
        simp only [hb, cond_true] at h
        have := ble_iff.1 hb
        simp only [blt_iff.2 (show j < 2 ^ d by omega), cond_true]
        exact cuni_ok d l i n v h j h1 h2
      | false =>
        simp only [hb, cond_false] at h
        cases hc : Nat.ble (2 ^ d) i with
        | false =>
          simp only [hc, cond_false] at h
          obtain ⟨h3, h4⟩ := juni_ok h
          have h5 : ¬ 2 ^ d ≤ i := fun e => by rw [ble_iff.2 e] at hc; cases hc
          cases hj : Nat.blt j (2 ^ d) with
          | true => simp only [cond_true]; have := blt_iff.1 hj; exact cuni_ok d l i _ v h3 j h1 (by omega)
          | false => simp only [cond_false]; have := blt_false.1 hj; exact cuni_ok d r 0 _ v h4 (j - 2 ^ d) (by omega) (by omega)
        | true =>
          simp only [hc, cond_true] at h
          have := ble_iff.1 hc
          simp only [blt_false.2 (show 2 ^ d ≤ j by omega), cond_false]
          exact cuni_ok d r (i - 2 ^ d) n v h (j - 2 ^ d) (by omega) (by omega)
    | uni u => simp only [cuni, Option.some.injEq] at h; exact h
    | _ => cases h

theorem cget_cseg (k : Nat) (s : AV) : ∀ (d i j : Nat), j < 2 ^ d → cget d (cseg k s d i) j = cget k s (i + j)
  | 0, i, j, hj => by
    have : j = 0 := by simpa using hj
    subst this
    rfl
  | d + 1, i, j, hj => by
    have hp : 2 ^ (d + 1) = 2 ^ d + 2 ^ d := by rw [Nat.pow_succ]; omega
    unfold cseg
    split
    · rename_i v hv
      rw [cuni_ok k s i _ v hv (i + j) (by omega) (by omega)]
      rfl
    · simp only [cget]
      by_cases h : j < 2 ^ d
      · rw [blt_iff.2 h, cond_true, cget_cseg k s d i j h]
      · rw [blt_false.2 (by omega), cond_false, cget_cseg k s d (i + 2 ^ d) (j - 2 ^ d) (by omega)]
        congr 1; omega

theorem cget_crow {d : Nat} {t : AV} {off n i : Nat} (ho : off + n ≤ 2 ^ d) (hi : i < n) : cget (lg n) (crow d t off n) i = cget d t (off + i) := by
  unfold crow
  cases hb : (Nat.beq (off % 2 ^ lg n) 0 && Nat.ble (lg n) d) with
  | true =>
    simp only [Bool.and_eq_true] at hb
    have h1 := beqn_iff.1 hb.1
    have h2 := ble_iff.1 hb.2
    have h3 := lg_le n
    simp only [cond_true]
    exact cget_csub d (lg n) t off i h2 h1 (mul_le_of h2 h1 (by omega)) (by omega)
  | false => simp only [cond_false]; exact cget_cseg d t (lg n) off i (Nat.lt_of_lt_of_le hi (lg_le n))

theorem cget_cputs : ∀ (d k : Nat) (t : AV) (off : Nat) (s : AV) (j : Nat), k ≤ d → off % 2 ^ k = 0 → off + 2 ^ k ≤ 2 ^ d → j < 2 ^ d →
    cget d (cputs d k t off s) j = if off ≤ j ∧ j < off + 2 ^ k then cget k s (j - off) else cget d t j
  | 0, k, t, off, s, j, hk, hm, ho, hj => by
    have : k = 0 := by omega
    subst this
    simp only [Nat.pow_zero] at *
    have h1 : off = 0 := by omega
    have h2 : j = 0 := by omega
    subst h1; subst h2
    simp [cputs, cget]
  | d + 1, k, t, off, s, j, hk, hm, ho, hj => by
    have hp : 2 ^ (d + 1) = 2 ^ d + 2 ^ d := by rw [Nat.pow_succ]; omega
    unfold cputs
    cases he : Nat.beq (d + 1) k with
    | true =>
      have := beqn_iff.1 he
      subst this
      have : off = 0 := by omega
      subst this
      simp only [cond_true]
      rw [if_pos (by omega)]; rfl
    | false =>
      have hne : d + 1 ≠ k := fun h => by rw [beqn_iff.2 h] at he; cases he
      have hkd : k ≤ d := by omega
      simp only [cond_false]
      rw [cget_kids d t]
      cases hb : Nat.blt off (2 ^ d) with
      | true =>
        have hb' := blt_iff.1 hb
        have hle := mul_le_of hkd hm hb'
        simp only [cond_true]
        rw [cget_kids]
        simp only [kidL, kidR]
        cases hc : Nat.blt j (2 ^ d) with
        | true => simp only [cond_true]; rw [cget_cputs d k _ off s j hkd hm hle (blt_iff.1 hc)]
        | false => have := blt_false.1 hc; simp only [cond_false]; rw [if_neg (by omega)]
      | false =>
        have hb' := blt_false.1 hb
        simp only [cond_false]
        rw [cget_kids]
        simp only [kidL, kidR]
        cases hc : Nat.blt j (2 ^ d) with
        | true => have := blt_iff.1 hc; simp only [cond_true]; rw [if_neg (by omega)]
        | false =>
          have := blt_false.1 hc
          simp only [cond_false]
          rw [cget_cputs d k _ (off - 2 ^ d) s (j - 2 ^ d) hkd (mod_sub hkd hm hb') (by omega) (by omega)]
          by_cases hh : off ≤ j ∧ j < off + 2 ^ k
          · rw [if_pos hh, if_pos (by omega)]; congr 1; omega
          · rw [if_neg hh, if_neg (by omega)]

theorem cget_cwr {k : Nat} {s : AV} : ∀ (d n i off : Nat) (t : AV) (j : Nat), off + n ≤ 2 ^ d → j < 2 ^ d →
    cget d (cwr k s d n i off t) j = if off ≤ j ∧ j < off + n then cget k s (i + (j - off)) else cget d t j
  | 0, n, i, off, t, j, ho, hj => by
    simp only [Nat.pow_zero] at ho hj
    unfold cwr
    cases hb : Nat.beq n 0 with
    | true => have := beqn_iff.1 hb; rw [if_neg (by omega)]; rfl
    | false =>
      have hne : n ≠ 0 := fun h => by rw [beqn_iff.2 h] at hb; cases hb
      rw [if_pos (by omega)]
      show cget k s i = _
      congr 1; omega
  | d + 1, n, i, off, t, j, ho, hj => by
    have hp : 2 ^ (d + 1) = 2 ^ d + 2 ^ d := by rw [Nat.pow_succ]; omega
    unfold cwr
    cases hb : Nat.beq n 0 with
    | true => have := beqn_iff.1 hb; rw [if_neg (by omega)]; rfl
    | false =>
      have hne : n ≠ 0 := fun h => by rw [beqn_iff.2 h] at hb; cases hb
      simp only [cond_false]
      cases hc : (Nat.beq off 0 && Nat.ble (2 ^ (d + 1)) n) with
      | true =>
        simp only [Bool.and_eq_true] at hc
        have h1 := beqn_iff.1 hc.1
        have h2 := ble_iff.1 hc.2
        simp only [cond_true]
        rw [cget_cseg k s (d + 1) i j hj, if_pos (by omega)]
        congr 1; omega
      | false =>
        simp only [cond_false]
        cases h1 : Nat.ble (2 ^ d) off with
        | true =>
          have := ble_iff.1 h1
          simp only [cond_true]
          rw [cget_kids d t, cget_kids d (.node _ _)]
          simp only [kidL, kidR]
          by_cases hj2 : j < 2 ^ d
          · rw [blt_iff.2 hj2, cond_true, cond_true, if_neg (by omega)]
          · rw [blt_false.2 (by omega), cond_false, cond_false, cget_cwr d n i (off - 2 ^ d) _ (j - 2 ^ d) (by omega) (by omega)]
            by_cases hh : off ≤ j ∧ j < off + n
            · rw [if_pos hh, if_pos (by omega)]; congr 1; omega
            · rw [if_neg hh, if_neg (by omega)]
        | false =>
          have h1' : ¬ 2 ^ d ≤ off := fun h => by rw [ble_iff.2 h] at h1; cases h1
          simp only [cond_false]
          cases h2 : Nat.ble (off + n) (2 ^ d) with
          | true =>
            have := ble_iff.1 h2
            simp only [cond_true]
            rw [cget_kids d t, cget_kids d (.node _ _)]
            simp only [kidL, kidR]
            by_cases hj2 : j < 2 ^ d
            · rw [blt_iff.2 hj2, cond_true, cond_true, cget_cwr d n i off _ j (by omega) hj2]
            · rw [blt_false.2 (by omega), cond_false, cond_false, if_neg (by omega)]
          | false =>
            have h2' : ¬ off + n ≤ 2 ^ d := fun h => by rw [ble_iff.2 h] at h2; cases h2
            simp only [cond_false]
            rw [cget_kids d t, cget_kids d (.node _ _)]
            simp only [kidL, kidR]
            by_cases hj2 : j < 2 ^ d
            · rw [blt_iff.2 hj2, cond_true, cond_true, cget_cwr d (2 ^ d - off) i off _ j (by omega) hj2]
              by_cases hh : off ≤ j ∧ j < off + n
              · rw [if_pos hh, if_pos (by omega)]
              · rw [if_neg hh, if_neg (by omega)]
            · rw [blt_false.2 (by omega), cond_false, cond_false, cget_cwr d (n - (2 ^ d - off)) (i + (2 ^ d - off)) 0 _ (j - 2 ^ d) (by omega) (by omega)]
              by_cases hh : off ≤ j ∧ j < off + n
              · rw [if_pos hh, if_pos (by omega)]; congr 1; omega
              · rw [if_neg hh, if_neg (by omega)]

theorem cget_cwrite {d k : Nat} {s : AV} (n i off : Nat) (t : AV) (j : Nat) (ho : off + n ≤ 2 ^ d) (hj : j < 2 ^ d) :
    cget d (cwrite d k s n i off t) j = if off ≤ j ∧ j < off + n then cget k s (i + (j - off)) else cget d t j := cget_cwr d n i off t j ho hj

theorem cget_cblit {d : Nat} {t : AV} {off n : Nat} {s : AV} {j : Nat} (ho : off + n ≤ 2 ^ d) (hj : j < 2 ^ d) :
    cget d (cblit d t off n s) j = if off ≤ j ∧ j < off + n then cget (lg n) s (j - off) else cget d t j := by
  unfold cblit
  cases hb : (Nat.beq n (2 ^ lg n) && (Nat.beq (off % 2 ^ lg n) 0 && Nat.ble (lg n) d)) with
  | true =>
    simp only [Bool.and_eq_true] at hb
    have h0 := beqn_iff.1 hb.1
    have h1 := beqn_iff.1 hb.2.1
    have h2 := ble_iff.1 hb.2.2
    simp only [cond_true]
    rw [cget_cputs d (lg n) t off s j h2 h1 (by omega) hj, ← h0]
  | false => simp only [cond_false]; rw [cget_cwrite n 0 off t j ho hj, Nat.zero_add]

end I
end Go.Proofs.YtpaekplhcjleaaaGreatDoor
