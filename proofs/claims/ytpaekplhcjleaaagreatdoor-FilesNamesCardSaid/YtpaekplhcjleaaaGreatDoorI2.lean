import Derived.Test.YtpaekplhcjleaaaGreatDoorI1
namespace Go.Proofs.YtpaekplhcjleaaaGreatDoor
namespace I

/-- The number that bytes are, behind a. -/
def strOf : List UInt8 → Nat → Nat
  | [], a => a
  | b :: l, a => strOf l (a * 256 + b.toNat)

def val (l : List UInt8) : Nat := strOf l 0

theorem strOf_eq : ∀ (l : List UInt8) (a : Nat), strOf l a = a * 256 ^ l.length + val l
  | [], a => by simp [strOf, val]
  | b :: l, a => by
    unfold strOf val
    rw [strOf, strOf_eq l, strOf_eq l (0 * 256 + b.toNat), List.length_cons, Nat.pow_succ, Nat.add_mul]
    rw [Nat.zero_mul, Nat.zero_add, show a * (256 ^ l.length * 256) = a * 256 * 256 ^ l.length by rw [Nat.mul_comm (256 ^ l.length), Nat.mul_assoc]]
    omega

theorem val_cons (b : UInt8) (l : List UInt8) : val (b :: l) = b.toNat * 256 ^ l.length + val l := by
  rw [val, strOf, strOf_eq]; simp

theorem val_append : ∀ (a b : List UInt8), val (a ++ b) = val a * 256 ^ b.length + val b
  | [], b => by simp [val, strOf]
  | x :: a, b => by
    rw [List.cons_append, val_cons, val_append a b, val_cons, List.length_append, Nat.add_mul, Nat.pow_add, Nat.mul_assoc]; omega

theorem val_lt : ∀ (l : List UInt8), val l < 256 ^ l.length
  | [] => by simp [val, strOf]
  | b :: l => by
    have h1 := val_lt l
    have h2 : b.toNat < 256 := b.toNat_lt
    rw [val_cons, List.length_cons, Nat.pow_succ]
    have h3 : (b.toNat + 1) * 256 ^ l.length ≤ 256 * 256 ^ l.length := Nat.mul_le_mul_right _ h2
    rw [Nat.add_mul, Nat.one_mul] at h3
    rw [Nat.mul_comm (256 ^ l.length)]
    omega

theorem val_inj : ∀ {a b : List UInt8}, a.length = b.length → val a = val b → a = b
  | [], [], _, _ => rfl
  | [], _ :: _, h, _ => by simp at h
  | _ :: _, [], h, _ => by simp at h
  | x :: a, y :: b, h, hv => by
    have hl : a.length = b.length := by simpa using h
    rw [val_cons, val_cons, hl] at hv
    have ha := val_lt a
    have hb := val_lt b
    rw [hl] at ha
    have hp : 0 < 256 ^ b.length := Nat.pow_pos (by decide)
    have e1 : (x.toNat * 256 ^ b.length + val a) / 256 ^ b.length = x.toNat := by
      rw [Nat.mul_comm, Nat.mul_add_div hp, Nat.div_eq_of_lt ha, Nat.add_zero]
    have e2 : (y.toNat * 256 ^ b.length + val b) / 256 ^ b.length = y.toNat := by
      rw [Nat.mul_comm, Nat.mul_add_div hp, Nat.div_eq_of_lt hb, Nat.add_zero]
    have hxy : x.toNat = y.toNat := by rw [← e1, hv, e2]
    have : x = y := UInt8.toNat_inj.1 hxy
    subst this
    have : a = b := val_inj hl (by omega)
    rw [this]

theorem val_mid {p m q : List UInt8} : val (p ++ m ++ q) / 256 ^ q.length % 256 ^ m.length = val m := by
  have hp : 0 < 256 ^ q.length := Nat.pow_pos (by decide)
  rw [val_append, val_append, Nat.mul_comm _ (256 ^ q.length), Nat.mul_add_div hp, Nat.div_eq_of_lt (val_lt q), Nat.add_zero, Nat.mul_comm, Nat.mul_add_mod, Nat.mod_eq_of_lt (val_lt m)]

theorem val_extract {l : List UInt8} {a b : Nat} (hab : a ≤ b) (hb : b ≤ l.length) : val ((l.drop a).take (b - a)) = val l / 256 ^ (l.length - b) % 256 ^ (b - a) := by
  have h1 : l = l.take a ++ (l.drop a).take (b - a) ++ l.drop b := by
    rw [List.append_assoc]
    conv => lhs; rw [← List.take_append_drop a l]
    congr 1
    conv => lhs; rw [← List.take_append_drop (b - a) (l.drop a)]
    congr 1
    rw [List.drop_drop]; congr 1; omega
  have h2 : ((l.drop a).take (b - a)).length = b - a := by simp; omega
  have h3 : (l.drop b).length = l.length - b := by simp
  have h4 := val_mid (p := l.take a) (m := (l.drop a).take (b - a)) (q := l.drop b)
  rw [h2, h3, ← h1] at h4
  exact h4.symm

def sbyte (n x i : Nat) : Nat := x / 256 ^ (n - 1 - i) % 256

theorem val_get {l : List UInt8} {i : Nat} (h : i < l.length) : (l[i]'h).toNat = sbyte l.length (val l) i := by
  have h1 := val_extract (l := l) (a := i) (b := i + 1) (by omega) (by omega)
  have h2 : (l.drop i).take (i + 1 - i) = [l[i]] := by
    rw [show i + 1 - i = 1 by omega, List.drop_eq_getElem_cons h]; rfl
  rw [h2, show i + 1 - i = 1 by omega] at h1
  rw [sbyte, show l.length - 1 - i = l.length - (i + 1) by omega]
  simpa [val, strOf] using h1

def strLess (n x m y : Nat) : Bool :=
  bif Nat.ble n m then Nat.ble x (y / 256 ^ (m - n)) && (Nat.blt x (y / 256 ^ (m - n)) || Nat.blt n m)
  else Nat.blt (x / 256 ^ (n - m)) y

theorem bytesLess_nil (b : List UInt8) : Op.bytesLess [] b = Nat.blt 0 b.length := by
  cases b with
  | nil => rfl
  | cons x b => simp only [Op.bytesLess, List.length_cons]; exact (I.blt_iff.2 (by omega)).symm

theorem bytesLess_eq : ∀ (a b : List UInt8), a.length = b.length → Op.bytesLess a b = Nat.blt (val a) (val b)
  | [], [], _ => rfl
  | [], _ :: _, h => by simp at h
  | _ :: _, [], h => by simp at h
  | x :: a, y :: b, h => by
    have hl : a.length = b.length := by simpa using h
    have ih := bytesLess_eq a b hl
    have ha := val_lt a
    have hb := val_lt b
    rw [hl] at ha
    rw [val_cons, val_cons, hl]
    simp only [Op.bytesLess, ih]
    rcases Nat.lt_trichotomy x.toNat y.toNat with hlt | heq | hgt
    · have h1 : (decide (x < y)) = true := by simpa [UInt8.lt_iff_toNat_lt] using hlt
      rw [h1, Bool.true_or]
      symm; rw [blt_iff]
      have : (x.toNat + 1) * 256 ^ b.length ≤ y.toNat * 256 ^ b.length := Nat.mul_le_mul_right _ hlt
      rw [Nat.add_mul] at this; omega
    · have hxy : x = y := UInt8.toNat_inj.1 heq
      subst hxy
      have h1 : (decide (x < x)) = false := by simp
      rw [h1]
      simp only [beq_self_eq_true, Bool.true_and, Bool.false_or]
      cases hh : Nat.blt (val a) (val b) with
      | true => symm; rw [blt_iff]; have := blt_iff.1 hh; omega
      | false => symm; rw [blt_false]; have := blt_false.1 hh; omega
    · have h1 : (decide (x < y)) = false := by simp [UInt8.lt_iff_toNat_lt]; omega
      have h2 : (x == y) = false := by
        rw [beq_eq_false_iff_ne]; intro h; rw [h] at hgt; omega
      rw [h1, h2]
      simp only [Bool.false_and, Bool.or_self]
      symm; rw [blt_false]
      have : (y.toNat + 1) * 256 ^ b.length ≤ x.toNat * 256 ^ b.length := Nat.mul_le_mul_right _ hgt
      rw [Nat.add_mul] at this; omega

theorem bytesLess_app1 : ∀ (a b c : List UInt8), a.length = b.length → Op.bytesLess a (b ++ c) = (Op.bytesLess a b || (a == b && Nat.blt 0 c.length))
  | [], [], c, _ => by rw [List.nil_append, bytesLess_nil]; simp [Op.bytesLess]
  | [], _ :: _, _, h => by simp at h
  | _ :: _, [], _, h => by simp at h
  | x :: a, y :: b, c, h => by
    have ih := bytesLess_app1 a b c (by simpa using h)
    simp only [List.cons_append, Op.bytesLess, ih]
    by_cases hxy : x = y
    · subst hxy; simp only [beq_self_eq_true, Bool.true_and, List.cons_beq_cons]
      cases decide (x < x) <;> simp
    · have hb : (x == y) = false := by rw [beq_eq_false_iff_ne]; exact hxy
      simp only [List.cons_beq_cons, hb, Bool.false_and, Bool.or_false]

theorem bytesLess_app2 : ∀ (a b c : List UInt8), a.length = b.length → Op.bytesLess (a ++ c) b = Op.bytesLess a b
  | [], [], c, _ => by simp [Op.bytesLess]
  | [], _ :: _, _, h => by simp at h
  | _ :: _, [], _, h => by simp at h
  | x :: a, y :: b, c, h => by
    have ih := bytesLess_app2 a b c (by simpa using h)
    simp only [List.cons_append, Op.bytesLess, ih]

theorem beq_val {a b : List UInt8} (h : a.length = b.length) : (a == b) = Nat.beq (val a) (val b) := by
  cases hb : Nat.beq (val a) (val b) with
  | true => rw [val_inj h (beqn_iff.1 hb)]; simp
  | false =>
    rw [beq_eq_false_iff_ne]; intro hh
    rw [hh, Nat.beq_refl] at hb; cases hb

theorem val_take {l : List UInt8} {k : Nat} : val (l.take k) = val l / 256 ^ (l.length - k) := by
  have hp : 0 < 256 ^ (l.length - k) := Nat.pow_pos (by decide)
  conv => rhs; rw [← List.take_append_drop k l]
  rw [val_append]
  have : (l.drop k).length = l.length - k := by simp
  rw [List.take_append_drop, this, Nat.mul_comm, Nat.mul_add_div hp, Nat.div_eq_of_lt (by rw [← this]; exact val_lt _), Nat.add_zero]

theorem strLess_ok (a b : List UInt8) : Op.bytesLess a b = strLess a.length (val a) b.length (val b) := by
  unfold strLess
  cases hb : Nat.ble a.length b.length with
  | true =>
    have hle := ble_iff.1 hb
    simp only [cond_true]
    conv => lhs; rw [← List.take_append_drop a.length b]
    have hl : a.length = (b.take a.length).length := by simp; omega
    rw [bytesLess_app1 _ _ _ hl, bytesLess_eq _ _ hl, beq_val hl, val_take]
    have : Nat.blt 0 (b.drop a.length).length = Nat.blt a.length b.length := by
      simp only [List.length_drop]
      cases h : Nat.blt a.length b.length with
      | true => exact blt_iff.2 (by have := blt_iff.1 h; omega)
      | false => exact blt_false.2 (by have := blt_false.1 h; omega)
    rw [this]
    generalize val b / 256 ^ (b.length - a.length) = y
    cases h1 : Nat.blt (val a) y with
    | true => have := blt_iff.1 h1; simp [ble_iff.2 (Nat.le_of_lt this)]
    | false =>
      have := blt_false.1 h1
      simp only [Bool.false_or]
      cases h2 : Nat.beq (val a) y with
      | true => have := beqn_iff.1 h2; rw [ble_iff.2 (by omega)]
      | false =>
        have hne : val a ≠ y := fun h => by rw [beqn_iff.2 h] at h2; cases h2
        have : Nat.ble (val a) y = false := by
          cases h : Nat.ble (val a) y with
          | false => rfl
          | true => have := ble_iff.1 h; omega
        rw [this]
  | false =>
    have hle : b.length ≤ a.length := by
      apply Nat.le_of_lt
      apply Nat.lt_of_not_le
      intro h; rw [ble_iff.2 h] at hb; cases hb
    simp only [cond_false]
    conv => lhs; rw [← List.take_append_drop b.length a]
    have hl : (a.take b.length).length = b.length := by simp; omega
    rw [bytesLess_app2 _ _ _ hl, bytesLess_eq _ _ hl, val_take]

end I
end Go.Proofs.YtpaekplhcjleaaaGreatDoor
