import Derived.Test.YtpaekplhcjleaaaGreatDoorI6
import Derived.Stop.BytesEq
namespace Go.Proofs.YtpaekplhcjleaaaGreatDoor
namespace I
open K (one aggB run_underlying' run_sizeOf' add_none run_v)
set_option linter.unusedVariables false

section
variable {P : Program} {σ : Sg} {w : World}

/-! ### Bytes of a row -/
def bytesO (d : Nat) (t : AV) : Nat → Nat → Nat → Option Nat
  | 0, _, a => some a
  | n + 1, i, a => match cget d t i with
    | .int .u8 (.ofNat x) => bif Nat.ble x 255 then bytesO d t n (i + 1) (a * 256 + x) else none
    | _ => none

theorem bytesO_ok {d : Nat} {t : AV} {cs : Array Value} {base : Nat} : ∀ {n i a x : Nat}, bytesO d t n i a = some x → (∀ j, i ≤ j → j < i + n → ∃ v, cs[base + j]? = some v ∧ Rel σ (cget d t j) v) →
    ∃ l : List UInt8, l.length = n ∧ x = strOf l a ∧ ∀ j, j < n → cs[base + (i + j)]? = some (.int .u8 ((l.getD j 0).toNat : Int))
  | 0, i, a, x, h, _ => by simp only [bytesO, Option.some.injEq] at h; subst h; exact ⟨[], rfl, rfl, fun j hj => by omega⟩
  | n + 1, i, a, x, h, hc => by
    unfold bytesO at h
    split at h
    · rename_i y hy
      cases hb : Nat.ble y 255 with
      | false => simp [hb] at h
      | true =>
        simp only [hb, cond_true] at h
        have hy255 := ble_iff.1 hb
        obtain ⟨v, hv, hr⟩ := hc i (Nat.le_refl _) (by omega)
        rw [hy] at hr
        cases hr
        obtain ⟨l, h1, h2, h3⟩ := bytesO_ok h (fun j hj hj' => hc j (by omega) (by omega))
        have e : (UInt8.ofNat y).toNat = y := by simp; omega
        refine ⟨UInt8.ofNat y :: l, by simp [h1], ?_, fun j hj => ?_⟩
        · rw [strOf, e]; exact h2
        · cases j with
          | zero => simp only [Nat.add_zero, List.getD_cons_zero, e]; exact hv
          | succ j =>
            have := h3 j (by omega)
            rw [List.getD_cons_succ, ← this]
            congr 1; omega
    · cases h

/-- All of a tree of bytes, as one number. -/
def bytesT : Nat → AV → Option Nat
  | 0, .int .u8 (.ofNat x) => bif Nat.ble x 255 then some x else none
  | d + 1, .node l r => match bytesT d l, bytesT d r with
    | some a, some b => some (a * 256 ^ 2 ^ d + b)
    | _, _ => none
  | d + 1, .uni (.int .u8 (.ofNat x)) => bif Nat.ble x 255 then some (x * ((256 ^ 2 ^ (d + 1) - 1) / 255)) else none
  | _, _ => none

theorem val_rep (x : UInt8) : ∀ n, val (List.replicate n x) * 255 = x.toNat * (256 ^ n - 1)
  | 0 => by simp [val, strOf]
  | n + 1 => by
    rw [List.replicate_succ, val_cons, Nat.add_mul, val_rep x n, List.length_replicate]
    have h : 1 ≤ 256 ^ n := Nat.one_le_pow _ _ (by decide)
    rw [Nat.pow_succ, Nat.mul_assoc, ← Nat.mul_add]
    congr 1
    omega

theorem val_rep' (x : UInt8) (n : Nat) : val (List.replicate n x) = x.toNat * ((256 ^ n - 1) / 255) := by
  have h := val_rep x n
  have hd : 255 ∣ 256 ^ n - 1 := by
    have := val_rep 1 n
    exact ⟨val (List.replicate n 1), by rw [Nat.mul_comm 255, this]; simp⟩
  obtain ⟨q, hq⟩ := hd
  rw [hq] at h ⊢
  rw [Nat.mul_div_cancel_left _ (by decide)]
  have : val (List.replicate n x) * 255 = (x.toNat * q) * 255 := by rw [h, Nat.mul_comm 255 q, Nat.mul_assoc]
  exact Nat.eq_of_mul_eq_mul_right (by decide) this

theorem bytesT_ok : ∀ {d : Nat} {t : AV} {x : Nat}, bytesT d t = some x → ∃ l : List UInt8, l.length = 2 ^ d ∧ x = val l ∧ ∀ j, j < 2 ^ d → cget d t j = .int .u8 (.ofNat (l.getD j 0).toNat)
  | 0, t, x, h => by
    unfold bytesT at h
    split at h
    · rename_i y heq
      cases hb : Nat.ble y 255 with
      | false => simp [hb] at h
      | true =>
        simp only [hb, cond_true, Option.some.injEq] at h
        subst h
        have hy := ble_iff.1 hb
        refine ⟨[UInt8.ofNat y], rfl, by simp [val, strOf]; omega, fun j hj => ?_⟩
        have : j = 0 := by simpa using hj
        subst this
        show AV.int .u8 (.ofNat y) = _
        simp; omega
    · rename_i heq; cases heq
    · rename_i heq; cases heq
    · cases h
  | d + 1, t, x, h => by
    unfold bytesT at h
    split at h
    · rename_i heq; cases heq
    · rename_i d' l r heq
      cases heq
      split at h
      · rename_i a b ha hb
        simp only [Option.some.injEq] at h
        subst h
        obtain ⟨la, a1, a2, a3⟩ := bytesT_ok ha
        obtain ⟨lb, b1, b2, b3⟩ := bytesT_ok hb
        refine ⟨la ++ lb, by rw [List.length_append, a1, b1, Nat.pow_succ]; omega, by rw [val_append, b1, a2, b2], fun j hj => ?_⟩
        rw [Nat.pow_succ] at hj
        simp only [cget]
        by_cases hj2 : j < 2 ^ d
        · rw [blt_iff.2 hj2, cond_true, a3 j hj2, List.getD_eq_getElem?_getD, List.getD_eq_getElem?_getD, List.getElem?_append_left (by omega)]
        · rw [blt_false.2 (by omega), cond_false, b3 (j - 2 ^ d) (by omega), List.getD_eq_getElem?_getD, List.getD_eq_getElem?_getD, List.getElem?_append_right (by omega), a1]
      · cases h
    · rename_i d' y heq
      cases heq
      cases hb : Nat.ble y 255 with
      | false => simp [hb] at h
      | true =>
        simp only [hb, cond_true, Option.some.injEq] at h
        subst h
        have hy := ble_iff.1 hb
        have e : (UInt8.ofNat y).toNat = y := by simp; omega
        refine ⟨List.replicate (2 ^ (d + 1)) (UInt8.ofNat y), List.length_replicate, by rw [val_rep', e], fun j hj => ?_⟩
        simp only [cget]
        rw [List.getD_eq_getElem?_getD, List.getElem?_replicate, if_pos hj, Option.getD_some, e]
    · cases h

def bytesOf (d : Nat) (t : AV) (n i a : Nat) : Option Nat :=
  bif Nat.beq n (2 ^ lg n) && (Nat.beq (i % 2 ^ lg n) 0 && (Nat.ble (lg n) d && Nat.ble (i + n) (2 ^ d))) then
    match bytesT (lg n) (csub d (lg n) t i) with
    | some x => some (a * 256 ^ n + x)
    | none => none
  else bytesO d t n i a

theorem bytesOf_ok {d : Nat} {t : AV} {cs : Array Value} {base : Nat} {n i a x : Nat} (h : bytesOf d t n i a = some x) (hc : ∀ j, i ≤ j → j < i + n → ∃ v, cs[base + j]? = some v ∧ Rel σ (cget d t j) v) :
    ∃ l : List UInt8, l.length = n ∧ x = strOf l a ∧ ∀ j, j < n → cs[base + (i + j)]? = some (.int .u8 ((l.getD j 0).toNat : Int)) := by
  unfold bytesOf at h
  cases hb : (Nat.beq n (2 ^ lg n) && (Nat.beq (i % 2 ^ lg n) 0 && (Nat.ble (lg n) d && Nat.ble (i + n) (2 ^ d)))) with
  | false => rw [hb] at h; exact bytesO_ok h hc
  | true =>
    rw [hb] at h
    simp only [cond_true] at h
    simp only [Bool.and_eq_true] at hb
    have e1 := beqn_iff.1 hb.1
    have e2 := beqn_iff.1 hb.2.1
    have e3 := ble_iff.1 hb.2.2.1
    have e4 := ble_iff.1 hb.2.2.2
    split at h
    · rename_i y hy
      simp only [Option.some.injEq] at h
      subst h
      obtain ⟨l, h1, h2, h3⟩ := bytesT_ok hy
      refine ⟨l, by rw [h1, ← e1], by rw [strOf_eq, h1, ← e1, h2], fun j hj => ?_⟩
      obtain ⟨v, hv, hr⟩ := hc (i + j) (by omega) (by omega)
      have h4 := h3 j (by omega)
      rw [cget_csub d (lg n) t i j e3 e2 (by omega) (by omega)] at h4
      rw [h4] at hr
      cases hr
      exact hv
    · cases h

/-- A text as a tree of bytes. -/
def strT : Nat → Nat → AV
  | 0, x => .int .u8 (.ofNat (x % 256))
  | _ + 1, 0 => .uni (.int .u8 (.ofNat 0))
  | d + 1, y + 1 => .node (strT d ((y + 1) / 256 ^ 2 ^ d)) (strT d ((y + 1) % 256 ^ 2 ^ d))

theorem cget_strT : ∀ (d x i : Nat), i < 2 ^ d → cget d (strT d x) i = .int .u8 (.ofNat (x / 256 ^ (2 ^ d - 1 - i) % 256))
  | 0, x, i, hi => by
    have : i = 0 := by simpa using hi
    subst this
    simp [strT, cget]
  | d + 1, 0, i, hi => by simp [strT, cget]
  | d + 1, y + 1, i, hi => by
    rw [Nat.pow_succ] at hi
    simp only [strT, cget]
    by_cases h2 : i < 2 ^ d
    · rw [blt_iff.2 h2, cond_true, cget_strT d _ i h2, Nat.div_div_eq_div_mul, ← Nat.pow_add, Nat.pow_succ, show 2 ^ d + (2 ^ d - 1 - i) = 2 ^ d * 2 - 1 - i by omega]
    · rw [blt_false.2 (by omega), cond_false, cget_strT d _ (i - 2 ^ d) (by omega)]
      have e1 : 2 ^ (d + 1) - 1 - i = 2 ^ d - 1 - (i - 2 ^ d) := by rw [Nat.pow_succ]; omega
      rw [e1]
      congr 2
      have hlt : 2 ^ d - 1 - (i - 2 ^ d) < 2 ^ d := by omega
      generalize 2 ^ d - 1 - (i - 2 ^ d) = e at hlt
      rw [show 2 ^ d = e + (2 ^ d - e) by omega, Nat.pow_add, Nat.mod_mul_right_div_self, Nat.mod_mod_of_dvd]
      exact Nat.dvd_trans (by rw [Nat.pow_one]; exact Nat.dvd_refl _) (Nat.pow_dvd_pow 256 (show 1 ≤ 2 ^ d - e by omega))

/-- n bytes of a text as a row. -/
def strN (n x : Nat) : AV := strT (lg n) (x * 256 ^ (2 ^ lg n - n))
theorem cget_strN {n x i : Nat} (hi : i < n) : cget (lg n) (strN n x) i = .int .u8 (.ofNat (sbyte n x i)) := by
  have hn := lg_le n
  unfold strN sbyte
  rw [cget_strT _ _ _ (by omega)]
  congr 2
  rw [show 2 ^ lg n - 1 - i = (2 ^ lg n - n) + (n - 1 - i) by omega, Nat.pow_add, ← Nat.div_div_eq_div_mul, Nat.mul_div_cancel _ (Nat.pow_pos (by decide))]

theorem sbyte_take {k m x i : Nat} (hk : k ≤ m) (hi : i < k) : sbyte k (x / 256 ^ (m - k)) i = sbyte m x i := by
  unfold sbyte
  rw [Nat.div_div_eq_div_mul, ← Nat.pow_add, show m - k + (k - 1 - i) = m - 1 - i by omega]

/-! ### Equality -/
def eqOp (op : BinOp) (b : Bool) : Option AV :=
  match op with
  | .eql => some (.bool b)
  | .neq => some (.bool (!b))
  | _ => none

theorem run_eqOp {op : BinOp} {b : Bool} {ty : TypeId} {x y : Value} {a : AV} (h : eqOp op b = some a) (hx : (∃ c, x = .bool c) ∨ (∃ p, x = .pointer p) ∨ (∃ cs, x = .agg cs) ∨ (∃ p n c, x = .slice p n c) ∨ (∃ m, x = .map m))
    (he : (Op.equal ty x y).run P w = .ok b w) : ∃ v, Rel σ a v ∧ (binOp op ty x y).run P w = .ok v w := by
  unfold eqOp at h
  split at h
  · simp only [Option.some.injEq] at h; subst h
    refine ⟨_, .bool _, ?_⟩
    rcases hx with ⟨c, rfl⟩ | ⟨p, rfl⟩ | ⟨cs, rfl⟩ | ⟨p, n, c, rfl⟩ | ⟨m, rfl⟩ <;> simp [binOp, he]
  · simp only [Option.some.injEq] at h; subst h
    refine ⟨_, .bool _, ?_⟩
    rcases hx with ⟨c, rfl⟩ | ⟨p, rfl⟩ | ⟨cs, rfl⟩ | ⟨p, n, c, rfl⟩ | ⟨m, rfl⟩ <;> simp [binOp, he]
  · cases h

def aeq (P : Program) (ty : TypeId) (x y : AV) : Option Bool :=
  match P.underlying ty, x, y with
  | some .bool, .bool a, .bool b => some (a == b)
  | some (.pointer _), .nilp, .nilp => some true
  | some (.pointer _), .nilp, .ptr _ _ => some false
  | some (.pointer _), .ptr _ _, .nilp => some false
  | some (.pointer e), .ptr b o, .ptr b' o' => match P.info? e with
    | some inf => bif Nat.beq inf.size 0 || !(Nat.beq b b') then none else some (Nat.beq o o')
    | none => none
  | some (.slice _), .nils, .nils => some true
  | some (.slice _), .nils, .sl .. => some false
  | some (.slice _), .sl .., .nils => some false
  | some (.map _ _), .nilm, .nilm => some true
  | some (.map _ _), .nilm, .map _ => some false
  | some (.map _ _), .map _, .nilm => some false
  | some (.array len e), .agg n t, .agg m u => match P.underlying e, P.info? e with
    | some (.int .u8), some inf => bif Nat.beq inf.size 1 && (Nat.beq n len && (Nat.beq m len && !(P.eqGuardType P.depth ty))) then
        match bytesOf (lg n) t n 0 0, bytesOf (lg m) u m 0 0 with
        | some a, some b => some (Nat.beq a b)
        | _, _ => none
      else none
    | _, _ => none
  | _, _, _ => none

theorem row_bytes {n x : Nat} {t : AV} {cs : Array Value} (hr : RowRel σ n t cs) (h : bytesOf (lg n) t n 0 0 = some x) : ∃ l : List UInt8, l.length = n ∧ x = val l ∧ cs = K.bv l := by
  obtain ⟨l, h1, h2, h3⟩ := bytesOf_ok (cs := cs) (base := 0) (σ := σ) h (fun j _ hj => by
    have hlt : j < cs.size := by rw [hr.1]; omega
    refine ⟨cs[j], by simp [hlt], hr.2.2 j _ (Array.getElem?_eq_getElem hlt)⟩)
  refine ⟨l, h1, h2, ?_⟩
  apply Array.ext_getElem?
  intro i
  by_cases hi : i < n
  · have := h3 i hi
    simp only [Nat.zero_add] at this
    rw [this, K.bv_get h1 hi]
  · rw [Array.getElem?_eq_none (by rw [hr.1]; omega), Array.getElem?_eq_none (by rw [K.bv_size]; omega)]

theorem aeq_ok {ty : TypeId} {x y : AV} {vx vy : Value} {b : Bool} (h : aeq P ty x y = some b) (hx : Rel σ x vx) (hy : Rel σ y vy) :
    (Op.equal ty vx vy).run P w = .ok b w ∧ ((∃ c, vx = .bool c) ∨ (∃ p, vx = .pointer p) ∨ (∃ cs, vx = .agg cs) ∨ (∃ p n c, vx = .slice p n c) ∨ (∃ m, vx = .map m)) ∧ (∀ op p q, (eqGuard op ty p q vx vy).run P w = .ok () w) := by
  unfold aeq at h
  split at h
  · rename_i c c' hu
    simp only [Option.some.injEq] at h; subst h
    cases hx; cases hy
    exact ⟨K.run_equal_bool hu, .inl ⟨_, rfl⟩, fun op p q => by cases op <;> rfl⟩
  · rename_i e hu
    simp only [Option.some.injEq] at h; subst h
    cases hx; cases hy
    exact ⟨K.run_equal_nil hu, .inr (.inl ⟨_, rfl⟩), fun op p q => by cases op <;> rfl⟩
  · rename_i e b' o' hu
    simp only [Option.some.injEq] at h; subst h
    cases hx; cases hy
    refine ⟨?_, .inr (.inl ⟨_, rfl⟩), fun op p q => by cases op <;> rfl⟩
    show (Op.equalIn (9999 + 1) ty _ _).run P w = _
    rw [Op.equalIn]
    simp only [Sem.run_bind, run_underlying' hu, Result.andThen_ok, Sem.run_pure, Option.isNone]
  · rename_i e b' o' hu
    simp only [Option.some.injEq] at h; subst h
    cases hx; cases hy
    exact ⟨K.run_equal_nil hu, .inr (.inl ⟨_, rfl⟩), fun op p q => by cases op <;> rfl⟩
  · rename_i e b1 o1 b2 o2 hu
    split at h
    · rename_i inf hi
      cases hb : (Nat.beq inf.size 0 || !(Nat.beq b1 b2)) with
      | true => simp [hb] at h
      | false =>
        simp only [hb, cond_false, Option.some.injEq] at h
        simp only [Bool.or_eq_false_iff, Bool.not_eq_false'] at hb
        have h0 : ¬ inf.size = 0 := fun e => by rw [beqn_iff.2 e] at hb; simp at hb
        have h1 := beqn_iff.1 hb.2
        subst h1
        cases hx with
        | ptr _ _ r base size o hs ho =>
        cases hy with
        | ptr _ _ r' base' size' o' hs' ho' =>
        rw [hs] at hs'
        simp only [Option.some.injEq, Prod.mk.injEq] at hs'
        obtain ⟨rfl, rfl, rfl⟩ := hs'
        refine ⟨?_, .inr (.inl ⟨_, rfl⟩), fun op p q => by cases op <;> rfl⟩
        have e2 : ((⟨r, o, none⟩ : Addr) == ⟨r, o', none⟩) = b := by
          rw [← h, beqn_dec]
          apply Bool.eq_iff_iff.2
          simp; omega
        show (Op.equalIn (9999 + 1) ty _ _).run P w = _
        rw [Op.equalIn]
        have e3 : (sameAddr (⟨r, o, none⟩ : Addr) ⟨r, o', none⟩).run P w = .ok b w := by
          unfold sameAddr
          simp only [beq_self_eq_true, if_true, Sem.run_pure, e2]
        simp only [Sem.run_bind, run_underlying' hu, run_sizeOf' hi, Result.andThen_ok, ne_eq, h0, not_false_eq_true, if_true, e3]
    · cases h
  · rename_i e hu
    simp only [Option.some.injEq] at h; subst h
    cases hx; cases hy
    refine ⟨?_, .inr (.inr (.inr (.inl ⟨_, _, _, rfl⟩))), fun op p q => by cases op <;> rfl⟩
    show (Op.equalIn (9999 + 1) ty _ _).run P w = _
    rw [Op.equalIn]
    simp only [Sem.run_bind, run_underlying' hu, Result.andThen_ok, Sem.run_pure, Option.isNone]
  · rename_i e hu
    simp only [Option.some.injEq] at h; subst h
    cases hx; cases hy
    refine ⟨?_, .inr (.inr (.inr (.inl ⟨_, _, _, rfl⟩))), fun op p q => by cases op <;> rfl⟩
    show (Op.equalIn (9999 + 1) ty _ _).run P w = _
    rw [Op.equalIn]
    simp only [Sem.run_bind, run_underlying' hu, Result.andThen_ok, Sem.run_pure, Option.isNone]
  · rename_i e hu
    simp only [Option.some.injEq] at h; subst h
    cases hx; cases hy
    refine ⟨?_, .inr (.inr (.inr (.inl ⟨_, _, _, rfl⟩))), fun op p q => by cases op <;> rfl⟩
    show (Op.equalIn (9999 + 1) ty _ _).run P w = _
    rw [Op.equalIn]
    simp only [Sem.run_bind, run_underlying' hu, Result.andThen_ok, Sem.run_pure, Option.isNone]
  · rename_i e e' hu
    simp only [Option.some.injEq] at h; subst h
    cases hx; cases hy
    refine ⟨?_, .inr (.inr (.inr (.inr ⟨_, rfl⟩))), fun op p q => by cases op <;> rfl⟩
    show (Op.equalIn (9999 + 1) ty _ _).run P w = _
    rw [Op.equalIn]
    simp only [Sem.run_bind, run_underlying' hu, Result.andThen_ok, Sem.run_pure, Option.isNone]
  · rename_i e e' b' hu
    simp only [Option.some.injEq] at h; subst h
    cases hx; cases hy
    refine ⟨?_, .inr (.inr (.inr (.inr ⟨_, rfl⟩))), fun op p q => by cases op <;> rfl⟩
    show (Op.equalIn (9999 + 1) ty _ _).run P w = _
    rw [Op.equalIn]
    simp only [Sem.run_bind, run_underlying' hu, Result.andThen_ok, Sem.run_pure, Option.isNone]
  · rename_i e e' b' hu
    simp only [Option.some.injEq] at h; subst h
    cases hx; cases hy
    refine ⟨?_, .inr (.inr (.inr (.inr ⟨_, rfl⟩))), fun op p q => by cases op <;> rfl⟩
    show (Op.equalIn (9999 + 1) ty _ _).run P w = _
    rw [Op.equalIn]
    simp only [Sem.run_bind, run_underlying' hu, Result.andThen_ok, Sem.run_pure, Option.isNone]
  · rename_i len e n t m u hu
    split at h
    · rename_i inf he hi
      cases hb : (Nat.beq inf.size 1 && (Nat.beq n len && (Nat.beq m len && !(P.eqGuardType P.depth ty)))) with
      | false => simp [hb] at h
      | true =>
        simp only [hb, cond_true] at h
        simp only [Bool.and_eq_true, Bool.not_eq_true'] at hb
        have h0 := beqn_iff.1 hb.1
        have h1 := beqn_iff.1 hb.2.1
        have h2 := beqn_iff.1 hb.2.2.1
        have hg := hb.2.2.2
        split at h
        · rename_i a c ha hc
          simp only [Option.some.injEq] at h
          cases hx with
          | agg _ _ cs hn r1 r2 =>
          cases hy with
          | agg _ _ ds hm s1 s2 =>
          obtain ⟨l, hl, hv, rfl⟩ := row_bytes ⟨hn, r1, r2⟩ ha
          obtain ⟨l', hl', hv', rfl⟩ := row_bytes ⟨hm, s1, s2⟩ hc
          have := K.equal_bv (P := P) (w := w) hu he (by rw [hi]; simp [h0]) (hl.trans h1) (hl'.trans h2)
          refine ⟨?_, .inr (.inr (.inl ⟨_, rfl⟩)), fun op p q => run_eqGuard_agg (P := P) w op ty p q _ _ hg⟩
          rw [this, ← h, hv, hv', beq_val (by omega)]
        · cases h
    · cases h
  · cases h

end
end I
end Go.Proofs.YtpaekplhcjleaaaGreatDoor
