/- A calculus over the walk's weakest preconditions: slots as a list of known values, the region's quiet operations run by a function. Nothing of a program stands here: it holds of every one. -/
import Derived.WalkKit
import Derived.OrdersHeld
import Derived.KernelRfl
namespace Go.Proofs.YtoopekjbikcebaaDoor
namespace K

/-! ### Slots -/
abbrev Ch := List (Nat × Bool)
abbrev Env := List (Nat × Ch × Value)

def Holds (tm : Array Value) (ch : Ch) : Prop := ∀ p ∈ ch, tm.getD p.1 undef = .bool p.2

structure St (n : Nat) (D : List Deferred) (Γ : Env) (a : Act) : Prop where
  size : a.tmps.size = n
  dfr : a.defers = D
  sl : ∀ e ∈ Γ, (Holds a.tmps e.2.1 → a.tmps.getD e.1 undef = e.2.2) ∧ (¬ Holds a.tmps e.2.1 → a.tmps.getD e.1 undef = undef)

def sub (c d : Ch) : Bool := c.all fun p => d.any fun q => Nat.beq q.1 p.1 && (q.2 == p.2)

def find : Env → Nat → Option (Ch × Value)
  | [], _ => none
  | e :: Γ, t => bif Nat.beq e.1 t then some e.2 else find Γ t

def look (Γ : Env) (ch : Ch) (t : Nat) : Option Value :=
  match find Γ t with
  | some e => bif sub e.1 ch then some e.2 else none
  | none => none

def opd (Γ : Env) (ch : Ch) : Operand → Option Value
  | .tmp t => look Γ ch t
  | .const v => some v
  | .global g => some (.pointer (some ⟨g, 0, none⟩))
  | .func f => some (.func (.func f) #[] #[])

def put (Γ : Env) (d : Nat) (ch : Ch) (v : Value) : Env :=
  (d, ch, v) :: Γ.filter fun e => !(Nat.beq e.1 d) && !(e.2.1.any fun p => Nat.beq p.1 d)

theorem beq_iff {a b : Nat} : Nat.beq a b = true ↔ a = b := ⟨Nat.eq_of_beq_eq_true, fun h => by rw [h]; exact Nat.beq_refl b⟩

theorem Holds.sub {tm : Array Value} {c d : Ch} (h : Holds tm d) (hs : K.sub c d = true) : Holds tm c := by
  intro p hp
  have h1 := List.all_eq_true.1 hs p hp
  obtain ⟨q, hq, hb⟩ := List.any_eq_true.1 h1
  simp only [Bool.and_eq_true, beq_iff, beq_iff_eq] at hb
  rw [← hb.1, ← hb.2]; exact h q hq

theorem find_mem {Γ : Env} {t : Nat} {e : Ch × Value} (h : find Γ t = some e) : (t, e) ∈ Γ := by
  induction Γ with
  | nil => simp [find] at h
  | cons x Γ ih =>
    simp only [find] at h
    cases hb : Nat.beq x.1 t with
    | true => rw [hb] at h; simp only [cond_true, Option.some.injEq] at h; rw [← beq_iff.1 hb, ← h]; exact List.mem_cons_self ..
    | false => rw [hb] at h; exact List.mem_cons_of_mem _ (ih h)

theorem look_ok {n : Nat} {D : List Deferred} {Γ : Env} {a : Act} {ch : Ch} {t : Nat} {v : Value} (hs : St n D Γ a) (hc : Holds a.tmps ch) (h : look Γ ch t = some v) : a.tmps.getD t undef = v := by
  unfold look at h
  cases hf : find Γ t with
  | none => rw [hf] at h; cases h
  | some e =>
    rw [hf] at h
    cases hb : K.sub e.1 ch with
    | false => simp [hb] at h
    | true =>
      simp only [hb, cond_true, Option.some.injEq] at h
      rw [← h]
      exact (hs.sl _ (find_mem hf)).1 (hc.sub hb)

theorem opd_ok {n : Nat} {D : List Deferred} {Γ : Env} {a : Act} {ch : Ch} {x : Operand} {v : Value} (hs : St n D Γ a) (hc : Holds a.tmps ch) (h : opd Γ ch x = some v) : a.eval x = v := by
  cases x with
  | tmp t => exact look_ok hs hc h
  | const u => simpa [opd, Act.eval] using h
  | global g => simpa [opd, Act.eval] using h
  | func f => simpa [opd, Act.eval] using h

theorem holds_nil (tm : Array Value) : Holds tm [] := fun _ h => by cases h

theorem getD_set {tm : Array Value} {d t : Nat} {v : Value} : (tm.setIfInBounds d v).getD t undef = if t = d ∧ d < tm.size then v else tm.getD t undef := by
  simp only [Array.getD_eq_getD_getElem?, Array.getElem?_setIfInBounds]
  by_cases h : d = t
  · subst h
    by_cases hd : d < tm.size
    · simp [hd]
    · simp [hd]
  · have h' : ¬ t = d := fun e => h e.symm
    simp [h, h']

theorem holds_set {tm : Array Value} {d : Nat} {v : Value} {ch : Ch} (h : ch.any (fun p => Nat.beq p.1 d) = false) : Holds (tm.setIfInBounds d v) ch ↔ Holds tm ch := by
  have key : ∀ p ∈ ch, (tm.setIfInBounds d v).getD p.1 undef = tm.getD p.1 undef := by
    intro p hp
    have h1 : ¬ Nat.beq p.1 d = true := fun hb => by
      have h3 : ch.any (fun p => Nat.beq p.1 d) = true := List.any_eq_true.2 ⟨p, hp, hb⟩
      rw [h] at h3; cases h3
    rw [getD_set, if_neg]
    exact fun hh => h1 (beq_iff.2 hh.1)
  exact ⟨fun hh p hp => (key p hp) ▸ hh p hp, fun hh p hp => (key p hp).trans (hh p hp)⟩

theorem put_ok {n : Nat} {D : List Deferred} {Γ : Env} {a : Act} {d : Nat} {ch : Ch} {v u : Value} (hs : St n D Γ a) (hd : d < n) (hch : ch.any (fun p => Nat.beq p.1 d) = false)
    (h1 : Holds a.tmps ch → u = v) (h2 : ¬ Holds a.tmps ch → u = undef) : St n D (put Γ d ch v) (a.put (some d) u) := by
  have hsz : d < a.tmps.size := by rw [hs.size]; exact hd
  refine ⟨by simp [Act.put, hs.size], by simp [Act.put, hs.dfr], ?_⟩
  intro e he
  simp only [Act.put]
  rcases List.mem_cons.1 he with rfl | he
  · simp only [holds_set hch, getD_set, hsz, and_self, if_true]
    exact ⟨h1, h2⟩
  · obtain ⟨hm, hf⟩ := List.mem_filter.1 he
    simp only [Bool.and_eq_true, Bool.not_eq_true'] at hf
    have hne : ¬ e.1 = d := fun hh => by
      have := beq_iff.2 hh
      rw [hf.1] at this; cases this
    rw [holds_set hf.2, getD_set, if_neg (fun hh => hne hh.1)]
    exact hs.sl e hm

theorem St.mono {n : Nat} {D : List Deferred} {Γ Γ' : Env} {a : Act} (hs : St n D Γ a) (h : ∀ e ∈ Γ', e ∈ Γ) : St n D Γ' a := ⟨hs.size, hs.dfr, fun e he => hs.sl e (h e he)⟩

/-- Only what is kept: unconditional entries of the listed slots. -/
def keep (ks : List Nat) (Γ : Env) : Env := Γ.filter fun e => e.2.1.isEmpty && ks.any fun k => Nat.beq k e.1

theorem keep_ok {n : Nat} {D : List Deferred} {Γ : Env} {a : Act} (ks : List Nat) (hs : St n D Γ a) : St n D (keep ks Γ) a := hs.mono fun _ he => (List.mem_filter.1 he).1

/-! ### Numbers -/
def lo : IntKind → Int
  | .i8 => -128 | .i16 => -32768 | .i32 => -2147483648 | .i64 => -9223372036854775808 | _ => 0
def hi : IntKind → Int
  | .i8 => 127 | .i16 => 32767 | .i32 => 2147483647 | .i64 => 9223372036854775807 | .u8 => 255 | .u16 => 65535 | .u32 => 4294967295 | .u64 => 18446744073709551615
def md : IntKind → Int
  | .i8 | .u8 => 256 | .i16 | .u16 => 65536 | .i32 | .u32 => 4294967296 | .i64 | .u64 => 18446744073709551616
def sg : IntKind → Bool
  | .i8 | .i16 | .i32 | .i64 => true
  | _ => false

theorem wrap_in {k : IntKind} {n : Int} (h : lo k ≤ n ∧ n ≤ hi k) : k.wrap n = n := by
  cases k <;> simp only [lo, hi] at h <;> simp [IntKind.wrap, IntKind.signed, IntKind.bits] <;> omega

theorem wrap_un {k : IntKind} (hk : sg k = false) (n : Int) : k.wrap n = n % md k := by
  cases k <;> simp only [sg, Bool.true_eq_false] at hk <;> simp [IntKind.wrap, IntKind.signed, IntKind.bits, md]

/-- A number that an operation made: bare where the kind is signed (and it fits), else taken by its modulus. -/
def nv (k : IntKind) (n : Int) : Value × List Prop :=
  bif sg k then (.int k n, [lo k ≤ n ∧ n ≤ hi k]) else (.int k (n % md k), [])

def All : List Prop → Prop
  | [] => True
  | p :: l => p ∧ All l

theorem All.mem {l : List Prop} (h : All l) : ∀ p ∈ l, p := by
  induction l with
  | nil => intro p hp; cases hp
  | cons q l ih =>
    intro p hp
    rcases List.mem_cons.1 hp with rfl | hp
    · exact h.1
    · exact ih h.2 p hp

theorem nv_ok {k : IntKind} {n : Int} (h : ∀ p ∈ (nv k n).2, p) : Value.int k (k.wrap n) = (nv k n).1 := by
  unfold nv at *
  cases hk : sg k with
  | true =>
    simp only [hk, cond_true, List.mem_cons, List.not_mem_nil, or_false, forall_eq] at h
    simp only [cond_true]
    rw [wrap_in h]
  | false => simp only [cond_false]; rw [wrap_un hk]

end K
end Go.Proofs.YtoopekjbikcebaaDoor
