/- The quiet operations of a region, run by a function on the list of known slots; what it asks besides stands in a list of propositions. -/
import Derived.Test.YtoopekjbikcebaaDoorK1
namespace Go.Proofs.YtoopekjbikcebaaDoor
namespace K

/-- In every world that meets S the operation leaves v and does nothing else. -/
def Yl (P : Program) (S : World → Prop) (ρ : Operand → Value) (o : Oper) (v : Value) : Prop := ∀ w, S w → (execOp ρ o).run P w = .ok (.value v) w

def binI (op : BinOp) (k : IntKind) (a b : Int) : Option (Value × List Prop) :=
  match op with
  | .add => some (nv k (a + b))
  | .sub => some (nv k (a - b))
  | .mul => some (nv k (a * b))
  | .quo => some (.int k (a / b), [0 ≤ a ∧ a ≤ hi k ∧ 0 < b])
  | .rem => some (.int k (a % b), [0 ≤ a ∧ 0 < b])
  | .and => some (.int k ((a.toNat &&& b.toNat : Nat) : Int), [(0 ≤ a ∧ a ≤ hi k) ∧ 0 ≤ b ∧ b ≤ hi k])
  | .or => some (.int k ((a.toNat ||| b.toNat : Nat) : Int), [(0 ≤ a ∧ a ≤ hi k) ∧ 0 ≤ b ∧ b ≤ hi k])
  | .xor => some (.int k ((a.toNat ^^^ b.toNat : Nat) : Int), [(0 ≤ a ∧ a ≤ hi k) ∧ 0 ≤ b ∧ b ≤ hi k])
  | .eql => some (.bool (a == b), [])
  | .neq => some (.bool (a != b), [])
  | .lss => some (.bool (decide (a < b)), [])
  | .leq => some (.bool (decide (a ≤ b)), [])
  | .gtr => some (.bool (decide (a > b)), [])
  | .geq => some (.bool (decide (a ≥ b)), [])
  | _ => none

def binS (op : BinOp) (x y : ByteArray) : Option (Value × List Prop) :=
  match op with
  | .add => some (.string (x ++ y), [x.size + y.size ≤ 9223372036854775807])
  | .eql => some (.bool (x.toList == y.toList), [])
  | .neq => some (.bool (!(x.toList == y.toList)), [])
  | .lss => some (.bool (Op.bytesLess x.toList y.toList), [])
  | .leq => some (.bool (Op.bytesLess x.toList y.toList || x.toList == y.toList), [])
  | .gtr => some (.bool (!(Op.bytesLess x.toList y.toList || x.toList == y.toList)), [])
  | .geq => some (.bool (!(Op.bytesLess x.toList y.toList)), [])
  | _ => none


def cvt (k k' : IntKind) (n : Int) : Value × List Prop :=
  bif sg k' || (!(sg k) && decide (hi k ≤ hi k')) then (.int k' n, [lo k' ≤ n ∧ n ≤ hi k']) else (.int k' (n % md k'), [])

def sbyte (s : ByteArray) (i : Int) : Int := ((s.data.toList.getD i.toNat 0).toNat : Int)

def aggB (P : Program) (t : TypeId) : Bool :=
  match P.underlying t with
  | some (.struct _) | some (.array _ _) => true
  | some _ => false
  | none => true

def addO (off i : Nat) : Nat := match off with
  | 0 => i
  | off => off + i

def mulS (i sz : Nat) : Nat := bif Nat.beq sz 1 then i else i * sz

def pkV (a b : Operand) (c : Bool) (va vb : Value) : Value :=
  match va, vb with
  | .bool x, .bool y =>
    match a, b with
    | .const (.bool true), _ => .bool (c || y)
    | _, .const (.bool false) => .bool (c && x)
    | _, _ => .bool (bif c then x else y)
  | va, vb => bif c then va else vb

def slB (Γ : Env) (ch : Ch) (x : Option Operand) (d : Nat) : Option (Nat × List Prop) :=
  match x with
  | none => some (d, [])
  | some x => match opd Γ ch x with
    | some (.int _ i) => some (i.toNat, [0 ≤ i])
    | _ => none

def partsV (Γ : Env) (ch : Ch) : List (Nat × Operand) → Option (List (Nat × Value))
  | [] => some []
  | p :: l => match opd Γ ch p.2, partsV Γ ch l with
    | some v, some vs => some ((p.1, v) :: vs)
    | _, _ => none

def opdL (Γ : Env) (ch : Ch) : List Operand → Option (List Value)
  | [] => some []
  | x :: l => match opd Γ ch x, opdL Γ ch l with
    | some v, some vs => some (v :: vs)
    | _, _ => none

def evOp (P : Program) (S : World → Prop) (Γ : Env) (ch : Ch) (o : Oper) (raw : Bool) (orc : Option Value) : Option (Value × List Prop) :=
  match raw, orc with
  | true, some v =>
    bif o.op.operands.all (fun x => (opd Γ ch x).isSome) then some (v, [∀ w, S w → (execOp (fun x => (opd Γ ch x).getD undef) o).run P w = .ok (.value v) w]) else none
  | true, none => none
  | false, orc =>
  match o.op with
  | .move x | .assign x => (opd Γ ch x).map fun v => (v, [])
  | .pick (.tmp t) a b =>
    match look Γ ch t, opd Γ ((t, true) :: ch) a, opd Γ ((t, false) :: ch) b with
    | some (.bool c), some va, some vb => some (pkV a b c va vb, [])
    | _, _, _ => none
  | .binOp op ty x y _ =>
    match opd Γ ch x, opd Γ ch y with
    | some (.int k a), some (.int k' b) =>
      match op with
      | .shl => some ((nv k (a * ((2 ^ b.toNat : Nat) : Int))).1, [0 ≤ b ∧ b.toNat ≤ k.bits] ++ (nv k (a * ((2 ^ b.toNat : Nat) : Int))).2)
      | .shr => some (.int k (a / ((2 ^ b.toNat : Nat) : Int)), [0 ≤ b ∧ b.toNat ≤ k.bits])
      | op => bif decide (k = k') then binI op k a b else none
    | some (.string s), some (.string t) => binS op s t
    | some (.bool a), some (.bool b) =>
      match P.underlying ty, op with
      | some .bool, .eql => some (.bool (a == b), [])
      | some .bool, .neq => some (.bool (!(a == b)), [])
      | _, _ => none
    | some (.pointer a), some (.pointer none) =>
      match P.underlying ty, op with
      | some (.pointer _), .eql => some (.bool a.isNone, [])
      | some (.pointer _), .neq => some (.bool (!a.isNone), [])
      | _, _ => none
    | some (.slice a _ _), some (.slice none _ _) =>
      match P.underlying ty, op with
      | some (.slice _), .eql => some (.bool a.isNone, [])
      | some (.slice _), .neq => some (.bool (!a.isNone), [])
      | _, _ => none
    | some (.agg xs), some (.agg ys) =>
      bif P.eqGuardType P.depth ty then none else
      match op, orc with
      | .eql, some (.bool b) => some (.bool b, [∀ w, S w → (Op.equal ty (.agg xs) (.agg ys)).run P w = .ok b w])
      | .neq, some (.bool b) => some (.bool (!b), [∀ w, S w → (Op.equal ty (.agg xs) (.agg ys)).run P w = .ok b w])
      | _, _ => none
    | _, _ => none
  | .unOp .not _ x => match opd Γ ch x with | some (.bool b) => some (.bool (!b), []) | _ => none
  | .unOp .neg _ x => match opd Γ ch x with | some (.int k n) => some (nv k (0 - n)) | _ => none
  | .unOp .xor _ x => match opd Γ ch x with | some (.int k n) => bif sg k then none else binI .xor k (hi k) n | _ => none
  | .convert src dst x =>
    match P.underlying src, P.underlying dst, opd Γ ch x, orc with
    | some _, some (.int k'), some (.int k n), none => some (cvt k k' n)
    | some (.slice e), some .string, some (.slice a n c), some v =>
      match P.underlying e with
      | some (.int .u8) => some (v, [∀ w, S w → (Conv.bytesToString (.slice a n c)).run P w = .ok v w])
      | _ => none
    | _, _, _, _ => none
  | .build t ps =>
    match partsV Γ ch ps.toList, orc with
    | some vs, some v => some (v, [∀ w, S w → (Instr.build t vs.toArray).run P w = .ok v w])
    | _, _ => none
  | .makeInterface t x => match opd Γ ch x with
    | some v => bif P.concrete t then some (.iface t v, []) else none
    | none => none
  | .makeFunc (.func f) first caps => match opdL Γ ch first.toList, opdL Γ ch caps.toList with
    | some x, some y => some (.func (.func f) x.toArray y.toArray, [])
    | _, _ => none
  | .extract t i => match opd Γ ch t with | some (.tuple vs) => (vs[i]?).map fun v => (v, []) | _ => none
  | .nilCheck x => match opd Γ ch x with | some (.pointer (some a)) => some (.pointer (some a), []) | _ => none
  | .fieldAddr s x f =>
    match P.underlying s, opd Γ ch x with
    | some (.struct fs), some (.pointer (some ⟨b, off, none⟩)) =>
      match fs[f]? with
      | some fl => match P.info? fl.type with
        | some i => bif Nat.beq i.size 0 then none else some (.pointer (some ⟨b, off + fl.offset, none⟩), [])
        | none => none
      | none => none
    | _, _ => none
  | .indexAddr ty x ix =>
    match P.underlying ty, opd Γ ch x, opd Γ ch ix with
    | some (.slice e), some (.slice (some ⟨b, off, none⟩) len _), some (.int _ i) =>
      (P.info? e).map fun inf => (.pointer (some ⟨b, addO off (mulS i.toNat inf.size), none⟩), [0 ≤ i ∧ i < (len : Int)])
    | some (.array len e), some (.pointer (some ⟨b, off, none⟩)), some (.int _ i) =>
      (P.info? e).map fun inf => (.pointer (some ⟨b, addO off (mulS i.toNat inf.size), none⟩), [0 ≤ i ∧ i < (len : Int)])
    | _, _, _ => none
  | .load ty x =>
    match opd Γ ch x, orc with
    | some (.pointer (some a)), some v => bif aggB P ty then some (v, [∀ w, S w → (loadVar ty a).run P w = .ok v w]) else some (v, [∀ w, S w → w.cell? a = some v])
    | _, _ => none
  | .index ty x ix =>
    match P.underlying ty, opd Γ ch x, opd Γ ch ix, orc with
    | some .string, some (.string s), some (.int _ i), none => some (.int .u8 (sbyte s i), [0 ≤ i ∧ i < (s.size : Int)])
    | some (.array len e), some (.agg cs), some (.int _ i), some v =>
      match P.info? e with
      | some inf => bif Nat.beq inf.size 1 && !(aggB P e) then some (v, [0 ≤ i ∧ i < (len : Int), cs[i.toNat]? = some v]) else none
      | none => none
    | _, _, _, _ => none
  | .slice ty x l h none =>
    match P.underlying ty, opd Γ ch x with
    | some .string, some (.string s) =>
      match slB Γ ch l 0, slB Γ ch h s.size with
      | some (l', n1), some (h', n2) => some (.string (s.extract l' h'), n1 ++ n2 ++ [l' ≤ h' ∧ h' ≤ s.size])
      | _, _ => none
    | some (.slice e), some (.slice (some ⟨b, off, none⟩) len cap) =>
      match slB Γ ch h len, P.info? e with
      | some (h', n2), some inf =>
        match l with
        | none => some (.slice (some ⟨b, off, none⟩) h' cap, n2 ++ [h' ≤ cap])
        | some _ => match slB Γ ch l 0 with
          | some (l', n1) => some (.slice (some ⟨b, if cap = l' then off else addO off (mulS l' inf.size), none⟩) (h' - l') (cap - l'), n1 ++ n2 ++ [l' ≤ h' ∧ h' ≤ cap])
          | none => none
      | _, _ => none
    | some (.array n e), some (.pointer (some ⟨b, off, none⟩)) =>
      match slB Γ ch h n, P.info? e with
      | some (h', n2), some inf =>
        match l with
        | none => some (.slice (some ⟨b, off, none⟩) h' n, n2 ++ [h' ≤ n])
        | some _ => match slB Γ ch l 0 with
          | some (l', n1) => some (.slice (some ⟨b, if n = l' then off else addO off (mulS l' inf.size), none⟩) (h' - l') (n - l'), n1 ++ n2 ++ [l' ≤ h' ∧ h' ≤ n])
          | none => none
      | _, _ => none
    | _, _ => none
  | .call c =>
    match c with
    | ⟨.builtin .len, ⟨[x]⟩, ⟨[ty]⟩⟩ => match P.underlying ty, opd Γ ch x with
      | some .string, some (.string s) => some (.int .i64 (s.size : Int), [])
      | some (.slice _), some (.slice _ n _) => some (.int .i64 (n : Int), [])
      | _, _ => none
    | ⟨.builtin .cap, ⟨[x]⟩, ⟨[ty]⟩⟩ => match P.underlying ty, opd Γ ch x with
      | some (.slice _), some (.slice _ _ n) => some (.int .i64 (n : Int), [])
      | _, _ => none
    | _ => none
  | _ => none


section
variable {P : Program} {S : World → Prop} {n : Nat} {Γ : Env} {a : Act} {ch : Ch} {w : World}

theorem run_nv {k : IntKind} {x : Int} {v : Value} {nd : List Prop} (h : nv k x = (v, nd)) (hn : ∀ p ∈ nd, p) : Value.int k (k.wrap x) = v := by
  have h2 : (nv k x).2 = nd := by rw [h]
  have h1 : (nv k x).1 = v := by rw [h]
  rw [← h1]; exact nv_ok (by rw [h2]; exact hn)

theorem hi_eq (k : IntKind) : hi k = 2 ^ (k.bits - (if sg k then 1 else 0)) - 1 := by cases k <;> decide

theorem bits_back {k : IntKind} {m : Nat} (h : (m : Int) ≤ hi k) : k.wrap (m : Int) = (m : Int) := wrap_in ⟨by cases k <;> simp [lo] <;> omega, h⟩

theorem ofInt_toNat {k : IntKind} {x : Int} (h : 0 ≤ x ∧ x ≤ hi k) : (BitVec.ofInt k.bits x).toNat = x.toNat := by
  obtain ⟨h1, h2⟩ := h
  rw [BitVec.toNat_ofInt]
  congr 1
  apply Int.emod_eq_of_lt h1
  cases k <;> simp [hi, IntKind.bits] at * <;> omega

theorem toNat_lt {k : IntKind} {x : Int} (h : 0 ≤ x ∧ x ≤ hi k) : x.toNat < 2 ^ (k.bits - (if sg k then 1 else 0)) := by
  obtain ⟨h1, h2⟩ := h
  cases k <;> simp [hi, IntKind.bits, sg] at * <;> omega

theorem le_hi {k : IntKind} {m : Nat} (h : m < 2 ^ (k.bits - (if sg k then 1 else 0))) : (m : Int) ≤ hi k := by
  cases k <;> simp [hi, IntKind.bits, sg] at * <;> omega

theorem run_binI {op : BinOp} {k : IntKind} {x y : Int} {ty : TypeId} {v : Value} {nd : List Prop} (h : binI op k x y = some (v, nd)) (hn : ∀ p ∈ nd, p) :
    (binOp op ty (.int k x) (.int k y)).run P w = .ok v w := by
  cases op <;> simp only [binI, Option.some.injEq, Prod.mk.injEq, reduceCtorEq] at h
  case add => simp [binOp, Op.intArith, run_nv h hn]
  case sub => simp [binOp, Op.intArith, run_nv h hn]
  case mul => simp [binOp, Op.intArith, run_nv h hn]
  case quo =>
    obtain ⟨rfl, rfl⟩ := h
    obtain ⟨h1, h2, h3⟩ := hn _ (List.mem_cons_self ..)
    have e : x.tdiv y = x / y := Int.tdiv_eq_ediv_of_nonneg h1
    have hb : x / y ≤ x := Int.ediv_le_self _ h1
    have hb0 : 0 ≤ x / y := Int.ediv_nonneg h1 (by omega)
    have hw : k.wrap (x / y) = x / y := wrap_in ⟨by cases k <;> simp [lo] <;> omega, by omega⟩
    simp [binOp, Op.intDiv, e, hw, show ¬ y = 0 by omega]
  case rem =>
    obtain ⟨rfl, rfl⟩ := h
    obtain ⟨h1, h3⟩ := hn _ (List.mem_cons_self ..)
    simp [binOp, Op.intDiv, Int.tmod_eq_emod_of_nonneg h1, show ¬ y = 0 by omega]
  case and =>
    obtain ⟨rfl, rfl⟩ := h
    obtain ⟨h1, h2⟩ := hn _ (List.mem_cons_self ..)
    have := bits_back (k := k) (m := x.toNat &&& y.toNat) (le_hi (Nat.and_lt_two_pow _ (toNat_lt h2)))
    simp only [binOp, Op.intBits, ne_eq, not_true_eq_false, if_false, BitVec.toNat_and, ofInt_toNat h1, ofInt_toNat h2, this]; rfl
  case or =>
    obtain ⟨rfl, rfl⟩ := h
    obtain ⟨h1, h2⟩ := hn _ (List.mem_cons_self ..)
    have := bits_back (k := k) (m := x.toNat ||| y.toNat) (le_hi (Nat.or_lt_two_pow (toNat_lt h1) (toNat_lt h2)))
    simp only [binOp, Op.intBits, ne_eq, not_true_eq_false, if_false, BitVec.toNat_or, ofInt_toNat h1, ofInt_toNat h2, this]; rfl
  case xor =>
    obtain ⟨rfl, rfl⟩ := h
    obtain ⟨h1, h2⟩ := hn _ (List.mem_cons_self ..)
    have := bits_back (k := k) (m := x.toNat ^^^ y.toNat) (le_hi (Nat.xor_lt_two_pow (toNat_lt h1) (toNat_lt h2)))
    simp only [binOp, Op.intBits, ne_eq, not_true_eq_false, if_false, BitVec.toNat_xor, ofInt_toNat h1, ofInt_toNat h2, this]; rfl
  all_goals (obtain ⟨rfl, rfl⟩ := h; simp [binOp, Op.intCmp])

theorem run_binS {op : BinOp} {x y : ByteArray} {ty : TypeId} {v : Value} {nd : List Prop} (h : binS op x y = some (v, nd)) (hn : ∀ p ∈ nd, p) :
    (binOp op ty (.string x) (.string y)).run P w = .ok v w := by
  cases op <;> simp only [binS, Option.some.injEq, Prod.mk.injEq, reduceCtorEq] at h
  case add =>
    obtain ⟨rfl, rfl⟩ := h
    have h1 := hn _ (List.mem_cons_self ..)
    have h2 : ¬ ((x.size + y.size : Nat) : Int) > IntKind.i64.max := by rw [IntKind.max_i64]; omega
    simp only [binOp, Op.stringOp, h2, if_false]; rfl
  all_goals (obtain ⟨rfl, rfl⟩ := h; simp [binOp, Op.stringOp])

end
end K
end Go.Proofs.YtoopekjbikcebaaDoor
