import Derived.Test.YtpaekplhcjleaaaGreatDoorI3
namespace Go.Proofs.YtpaekplhcjleaaaGreatDoor
namespace I
open K (one aggB run_underlying' run_sizeOf' add_none)
set_option linter.unusedVariables false

/-! ### Numbers -/
def ilt : Int → Int → Bool
  | .ofNat a, .ofNat b => Nat.blt a b
  | .ofNat _, .negSucc _ => false
  | .negSucc _, .ofNat _ => true
  | .negSucc a, .negSucc b => Nat.blt b a
def ieq : Int → Int → Bool
  | .ofNat a, .ofNat b => Nat.beq a b
  | .negSucc a, .negSucc b => Nat.beq a b
  | _, _ => false

theorem blt_dec (a b : Nat) : Nat.blt a b = decide (a < b) := by
  cases h : Nat.blt a b with
  | true => simpa using blt_iff.1 h
  | false => have := blt_false.1 h; simp; omega
theorem ble_dec (a b : Nat) : Nat.ble a b = decide (a ≤ b) := by
  cases h : Nat.ble a b with
  | true => simpa using ble_iff.1 h
  | false =>
    have : ¬ a ≤ b := fun hh => by rw [ble_iff.2 hh] at h; cases h
    simpa using this
theorem beqn_dec (a b : Nat) : Nat.beq a b = decide (a = b) := by
  cases h : Nat.beq a b with
  | true => simpa using beqn_iff.1 h
  | false =>
    have : ¬ a = b := fun hh => by rw [beqn_iff.2 hh] at h; cases h
    simpa using this

theorem ilt_eq (a b : Int) : ilt a b = decide (a < b) := by
  cases a <;> cases b <;> simp only [ilt, blt_dec] <;> apply Bool.eq_iff_iff.2 <;> simp <;> omega
theorem ieq_eq (a b : Int) : ieq a b = decide (a = b) := by
  cases a <;> cases b <;> simp only [ieq, beqn_dec] <;> apply Bool.eq_iff_iff.2 <;> simp <;> omega
theorem ieq_beq (a b : Int) : ieq a b = (a == b) := by rw [ieq_eq]; rfl

def maxN : IntKind → Nat
  | .i8 => 127 | .i16 => 32767 | .i32 => 2147483647 | .i64 => 9223372036854775807 | .u8 => 255 | .u16 => 65535 | .u32 => 4294967295 | .u64 => 18446744073709551615

def wrapF (k : IntKind) : Int → Int
  | .ofNat m => bif Nat.ble m (maxN k) then .ofNat m else k.wrap (.ofNat m)
  | .negSucc m => bif K.sg k && Nat.ble m (maxN k) then .negSucc m else k.wrap (.negSucc m)

theorem wrapF_eq (k : IntKind) (n : Int) : wrapF k n = k.wrap n := by
  cases n with
  | ofNat m =>
    simp only [wrapF]
    cases h : Nat.ble m (maxN k) with
    | false => rfl
    | true =>
      have h1 := ble_iff.1 h
      simp only [cond_true]
      refine (K.wrap_in ?_).symm
      cases k <;> simp only [K.lo, K.hi, maxN, Int.ofNat_eq_natCast] at * <;> omega
  | negSucc m =>
    simp only [wrapF]
    cases h : (K.sg k && Nat.ble m (maxN k)) with
    | false => rfl
    | true =>
      simp only [Bool.and_eq_true] at h
      have h1 := ble_iff.1 h.2
      have h0 := h.1
      simp only [cond_true]
      refine (K.wrap_in ?_).symm
      cases k <;> simp only [K.lo, K.hi, maxN, K.sg, Bool.false_eq_true] at * <;> omega

def inr (k : IntKind) : Int → Option Nat
  | .ofNat m => bif Nat.ble m (maxN k) then some m else none
  | _ => none

theorem inr_ok {k : IntKind} {n : Int} {m : Nat} (h : inr k n = some m) : n = (m : Int) ∧ (m : Int) ≤ K.hi k := by
  cases n with
  | ofNat x =>
    unfold inr at h
    cases hb : Nat.ble x (maxN k) with
    | false => simp [hb] at h
    | true =>
      simp only [hb, cond_true, Option.some.injEq] at h
      subst h
      have := ble_iff.1 hb
      refine ⟨rfl, ?_⟩
      cases k <;> simp [K.hi, maxN] at * <;> omega
  | negSucc x => simp [inr] at h

def binI (op : BinOp) (k : IntKind) (a b : Int) : Option AV :=
  match op with
  | .add => some (.int k (wrapF k (a + b)))
  | .sub => some (.int k (wrapF k (a - b)))
  | .mul => some (.int k (wrapF k (a * b)))
  | .quo => match inr k a, inr k b with
    | some x, some y => bif Nat.beq y 0 then none else some (.int k (.ofNat (x / y)))
    | _, _ => none
  | .rem => match inr k b with
    | some y => bif Nat.beq y 0 then none else some (.int k (a.tmod (.ofNat y)))
    | none => none
  | .and => match inr k a, inr k b with
    | some x, some y => some (.int k (.ofNat (Nat.land x y)))
    | _, _ => none
  | .or => match inr k a, inr k b with
    | some x, some y => some (.int k (.ofNat (Nat.lor x y)))
    | _, _ => none
  | .xor => match inr k a, inr k b with
    | some x, some y => some (.int k (.ofNat (Nat.xor x y)))
    | _, _ => none
  | .eql => some (.bool (ieq a b))
  | .neq => some (.bool (!ieq a b))
  | .lss => some (.bool (ilt a b))
  | .leq => some (.bool (!ilt b a))
  | .gtr => some (.bool (ilt b a))
  | .geq => some (.bool (!ilt a b))
  | _ => none

section
variable {P : Program} {σ : Sg} {w : World}

theorem mem1 {q : Prop} (h : q) : ∀ p ∈ [q], p := fun p hp => by
  simp only [List.mem_cons, List.not_mem_nil, or_false] at hp
  rw [hp]; exact h

theorem not_lt_dec (x y : Int) : (!decide (y < x)) = decide (x ≤ y) := by
  apply Bool.eq_iff_iff.2; simp

theorem binI_ok {op : BinOp} {k : IntKind} {x y : Int} {ty : TypeId} {a : AV} (h : binI op k x y = some a) : ∃ v, Rel σ a v ∧ (binOp op ty (.int k x) (.int k y)).run P w = .ok v w := by
  cases op <;> simp only [binI, Option.some.injEq, reduceCtorEq] at h
  case add => subst h; exact ⟨_, .int _ _, by simp [binOp, Op.intArith, wrapF_eq]⟩
  case sub => subst h; exact ⟨_, .int _ _, by simp [binOp, Op.intArith, wrapF_eq]⟩
  case mul => subst h; exact ⟨_, .int _ _, by simp [binOp, Op.intArith, wrapF_eq]⟩
  case quo =>
    split at h
    · rename_i m n h1 h2
      obtain ⟨rfl, h3⟩ := inr_ok h1
      obtain ⟨rfl, h4⟩ := inr_ok h2
      cases hb : Nat.beq n 0 with
      | true => simp [hb] at h
      | false =>
        have hn0 : n ≠ 0 := fun e => by rw [beqn_iff.2 e] at hb; cases hb
        simp only [hb, cond_false, Option.some.injEq] at h
        subst h
        exact ⟨_, .int _ _, K.run_binI (op := .quo) (nd := [0 ≤ (m : Int) ∧ (m : Int) ≤ K.hi k ∧ 0 < (n : Int)]) (by simp [K.binI]) (mem1 (by omega))⟩
    · cases h
  case rem =>
    split at h
    · rename_i n h2
      obtain ⟨rfl, h4⟩ := inr_ok h2
      cases hb : Nat.beq n 0 with
      | true => simp [hb] at h
      | false =>
        have hn0 : n ≠ 0 := fun e => by rw [beqn_iff.2 e] at hb; cases hb
        simp only [hb, cond_false, Option.some.injEq] at h
        subst h
        exact ⟨_, .int _ _, by simp [binOp, Op.intDiv, hn0]⟩
    · cases h
  case and =>
    split at h
    · rename_i m n h1 h2
      obtain ⟨rfl, h3⟩ := inr_ok h1
      obtain ⟨rfl, h4⟩ := inr_ok h2
      simp only [Option.some.injEq] at h; subst h
      exact ⟨_, .int _ _, K.run_binI (op := .and) (nd := [(0 ≤ (m : Int) ∧ (m : Int) ≤ K.hi k) ∧ 0 ≤ (n : Int) ∧ (n : Int) ≤ K.hi k]) (by simp only [K.binI, Int.toNat_natCast]; rfl) (mem1 (by omega))⟩
    · cases h
  case or =>
    split at h
    · rename_i m n h1 h2
      obtain ⟨rfl, h3⟩ := inr_ok h1
      obtain ⟨rfl, h4⟩ := inr_ok h2
      simp only [Option.some.injEq] at h; subst h
      exact ⟨_, .int _ _, K.run_binI (op := .or) (nd := [(0 ≤ (m : Int) ∧ (m : Int) ≤ K.hi k) ∧ 0 ≤ (n : Int) ∧ (n : Int) ≤ K.hi k]) (by simp only [K.binI, Int.toNat_natCast]; rfl) (mem1 (by omega))⟩
    · cases h
  case xor =>
    split at h
    · rename_i m n h1 h2
      obtain ⟨rfl, h3⟩ := inr_ok h1
      obtain ⟨rfl, h4⟩ := inr_ok h2
      simp only [Option.some.injEq] at h; subst h
      exact ⟨_, .int _ _, K.run_binI (op := .xor) (nd := [(0 ≤ (m : Int) ∧ (m : Int) ≤ K.hi k) ∧ 0 ≤ (n : Int) ∧ (n : Int) ≤ K.hi k]) (by simp only [K.binI, Int.toNat_natCast]; rfl) (mem1 (by omega))⟩
    · cases h
  case eql => subst h; exact ⟨_, .bool _, by simp [binOp, Op.intCmp, ieq_beq]⟩
  case neq => subst h; exact ⟨_, .bool _, by simp [binOp, Op.intCmp, ieq_beq]; rfl⟩
  case lss => subst h; exact ⟨_, .bool _, by simp [binOp, Op.intCmp, ilt_eq]⟩
  case leq => subst h; exact ⟨_, .bool _, by simp only [binOp, Op.intCmp, ilt_eq, not_lt_dec]; simp⟩
  case gtr => subst h; exact ⟨_, .bool _, by simp only [binOp, Op.intCmp, ilt_eq]; simp⟩
  case geq => subst h; exact ⟨_, .bool _, by simp only [binOp, Op.intCmp, ilt_eq, not_lt_dec]; simp⟩

def shI (op : BinOp) (k : IntKind) (a b : Int) : Option AV :=
  match b with
  | .ofNat n => bif Nat.ble n k.bits then
      match op, a with
      | .shl, .ofNat m => some (.int k (wrapF k (.ofNat (m * 2 ^ n))))
      | .shr, .ofNat m => some (.int k (.ofNat (m / 2 ^ n)))
      | _, _ => none
    else none
  | _ => none

theorem shI_ok {op : BinOp} {k k' : IntKind} {x y : Int} {ty : TypeId} {a : AV} (h : shI op k x y = some a) : ∃ v, Rel σ a v ∧ (binOp op ty (.int k x) (.int k' y)).run P w = .ok v w := by
  unfold shI at h
  split at h
  · rename_i n
    cases hb : Nat.ble n k.bits with
    | false => simp [hb] at h
    | true =>
      simp only [hb, cond_true] at h
      have hm : min n k.bits = n := Nat.min_eq_left (ble_iff.1 hb)
      split at h
      · rename_i m
        simp only [Option.some.injEq] at h; subst h
        refine ⟨_, .int _ _, ?_⟩
        have e2 : ¬ ((n : Int) < 0) := by omega
        have e1 : (m : Int) * 2 ^ n = ((m * 2 ^ n : Nat) : Int) := by simp
        simp only [binOp, Op.shift, Int.ofNat_eq_natCast, e2, if_false, Int.toNat_natCast, hm, wrapF_eq, e1]
        rfl
      · rename_i m
        simp only [Option.some.injEq] at h; subst h
        refine ⟨_, .int _ _, ?_⟩
        have e2 : ¬ ((n : Int) < 0) := by omega
        have e3 : (m : Int).fdiv (2 ^ n) = ((m / 2 ^ n : Nat) : Int) := by
          rw [Int.fdiv_eq_ediv_of_nonneg _ (Int.le_of_lt (Int.pow_pos (by decide)))]
          simp
        simp only [binOp, Op.shift, Int.ofNat_eq_natCast, e2, if_false, Int.toNat_natCast, hm, e3]
        rfl
      · cases h
  · cases h

def binS (op : BinOp) (n x m y : Nat) : Option AV :=
  match op with
  | .add => bif Nat.ble (n + m) 9223372036854775807 then some (.str (n + m) (x * 256 ^ m + y)) else none
  | .eql => some (.bool (Nat.beq n m && Nat.beq x y))
  | .neq => some (.bool (!(Nat.beq n m && Nat.beq x y)))
  | .lss => some (.bool (strLess n x m y))
  | .geq => some (.bool (!strLess n x m y))
  | .leq => some (.bool (strLess n x m y || (Nat.beq n m && Nat.beq x y)))
  | .gtr => some (.bool (!(strLess n x m y || (Nat.beq n m && Nat.beq x y))))
  | _ => none

theorem toList_eq (s : ByteArray) : s.toList = s.data.toList := ByteArray.toList_eq s

theorem beq_str (s t : ByteArray) : (s.toList == t.toList) = (Nat.beq s.size t.size && Nat.beq (val s.data.toList) (val t.data.toList)) := by
  rw [toList_eq, toList_eq]
  cases hb : Nat.beq s.size t.size with
  | true =>
    have := beqn_iff.1 hb
    rw [beq_val (by simpa using this), Bool.true_and]
  | false =>
    rw [Bool.false_and, beq_eq_false_iff_ne]
    intro hh
    have : s.size = t.size := by
      have := congrArg List.length hh
      simpa using this
    rw [beqn_iff.2 this] at hb; cases hb

theorem binS_ok {op : BinOp} {s t : ByteArray} {ty : TypeId} {a : AV} (h : binS op s.size (val s.data.toList) t.size (val t.data.toList) = some a) :
    ∃ v, Rel σ a v ∧ (binOp op ty (.string s) (.string t)).run P w = .ok v w := by
  have hl : ∀ (s t : ByteArray), Op.bytesLess s.toList t.toList = strLess s.size (val s.data.toList) t.size (val t.data.toList) := fun s t => by
    rw [toList_eq, toList_eq, strLess_ok]; simp
  cases op <;> simp only [binS, Option.some.injEq, reduceCtorEq] at h
  case add =>
    cases hb : Nat.ble (s.size + t.size) 9223372036854775807 with
    | false => simp [hb] at h
    | true =>
      simp only [hb, cond_true, Option.some.injEq] at h
      subst h
      refine ⟨.string (s ++ t), .str _ _ _ (by simp [ByteArray.size_append]) ?_, K.run_binS (op := .add) (nd := [s.size + t.size ≤ 9223372036854775807]) (by simp [K.binS]) (mem1 (ble_iff.1 hb))⟩
      have e : (s ++ t).data.toList = s.data.toList ++ t.data.toList := by simp [ByteArray.data_append]
      rw [e, val_append]; simp
  case eql => subst h; exact ⟨_, .bool _, by simp [binOp, Op.stringOp, beq_str]⟩
  case neq => subst h; exact ⟨_, .bool _, by simp [binOp, Op.stringOp, beq_str]⟩
  case lss => subst h; exact ⟨_, .bool _, by simp [binOp, Op.stringOp, hl]⟩
  case leq => subst h; exact ⟨_, .bool _, by simp [binOp, Op.stringOp, hl, beq_str]⟩
  case gtr => subst h; exact ⟨_, .bool _, by simp [binOp, Op.stringOp, hl, beq_str]⟩
  case geq => subst h; exact ⟨_, .bool _, by simp [binOp, Op.stringOp, hl]⟩
end

end I
end Go.Proofs.YtpaekplhcjleaaaGreatDoor
