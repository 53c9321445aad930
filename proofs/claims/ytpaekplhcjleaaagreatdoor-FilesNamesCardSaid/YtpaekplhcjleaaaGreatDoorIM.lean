import Derived.Test.YtpaekplhcjleaaaGreatDoorI8
import Derived.MapKept
namespace Go.Proofs.YtpaekplhcjleaaaGreatDoor
namespace I
open K (one aggB run_underlying' run_sizeOf' add_none run_v cell_cells)
set_option linter.unusedVariables false

/-! ### Maps whose keys are numbers, texts or bools -/
def eqKey : AV → AV → Option Bool
  | .int k a, .int k' b => bif Nat.beq (kn k) (kn k') then some (ieq a b) else none
  | .str n x, .str m y => some (Nat.beq n m && Nat.beq x y)
  | .bool a, .bool b => some (a == b)
  | _, _ => none

/-- Does a key fit its type? -/
def fitKey : TypeDesc → AV → Bool
  | .int _, .int _ _ => true
  | .string, .str _ _ => true
  | .bool, .bool _ => true
  | _, _ => false

def findI (k : AV) : AV → Nat → Option (Option (Nat × AV))
  | .lcons (.lcons k' v) l, i => match eqKey k k' with
    | some true => some (some (i, v))
    | some false => findI k l (i + 1)
    | none => none
  | .lnil, _ => some none
  | _, _ => none

/-- Another value at number i; behind the last a new entry. -/
def setI (k v : AV) : Nat → AV → AV
  | 0, .lcons _ l => .lcons (.lcons k v) l
  | i + 1, .lcons e l => .lcons e (setI k v i l)
  | _, l => l
def pushI (k v : AV) : AV → AV
  | .lcons e l => .lcons e (pushI k v l)
  | _ => .lcons (.lcons k v) .lnil
def dropI : Nat → AV → AV
  | 0, .lcons _ l => l
  | i + 1, .lcons e l => .lcons e (dropI i l)
  | _, l => l

section
variable {P : Program} {σ : Sg} {w : World}

theorem EsRel.nil_of {es : List MapEntry} (h : EsRel σ .lnil es) : es = [] := by
  cases es with
  | nil => rfl
  | cons e es => exact h.elim

theorem EsRel.cons_of {k v l : AV} {es : List MapEntry} (h : EsRel σ (.lcons (.lcons k v) l) es) : ∃ e es', es = e :: es' ∧ Rel σ k e.key ∧ Rel σ v e.val ∧ EsRel σ l es' := by
  cases es with
  | nil => exact h.elim
  | cons e es => exact ⟨e, es, rfl, h.1, h.2.1, h.2.2⟩

theorem eqKey_ok {d : TypeDesc} {k k' : AV} {kv kv' : Value} {b : Bool} (hk : Rel σ k kv) (hk' : Rel σ k' kv') (hf : fitKey d k = true) (h : eqKey k k' = some b) : Instr.sameNow d kv kv' = some b := by
  unfold eqKey at h
  split at h
  · rename_i q a q' a'
    cases hk; cases hk'
    cases hb : Nat.beq (kn q) (kn q') with
    | false => simp [hb] at h
    | true =>
      simp only [hb, cond_true, Option.some.injEq] at h
      have := kn_inj hb
      subst this
      cases d <;> simp [fitKey] at hf
      simp [Instr.sameNow, ← h, ieq_beq]
  · simp only [Option.some.injEq] at h
    cases hk with
    | str s _ _ hn hx =>
    cases hk' with
    | str t _ _ hm hy =>
    subst hn; subst hx; subst hm; subst hy
    cases d <;> simp [fitKey] at hf
    simp only [Instr.sameNow, Option.some.injEq]
    rw [← h, ← beq_str]
    apply Bool.eq_iff_iff.2
    rw [Go.MapKept.bytes_beq, beq_iff_eq]
    constructor
    · intro e; rw [e]
    · intro e
      rw [toList_eq, toList_eq] at e
      cases s; cases t
      simp only [ByteArray.mk.injEq]
      exact Array.toList_inj.1 e
  · simp only [Option.some.injEq] at h
    cases hk; cases hk'
    cases d <;> simp [fitKey] at hf
    simp [Instr.sameNow, ← h]
  · cases h

theorem findI_ok {d : TypeDesc} {k : AV} {kv : Value} (hk : Rel σ k kv) (hf : fitKey d k = true) : ∀ {l : AV} {es : List MapEntry} {i : Nat} {r : Option (Nat × AV)}, EsRel σ l es → findI k l i = some r →
    (r = none ∧ Instr.findNow d kv es i = some none) ∨ ∃ j v u, r = some (j, v) ∧ Instr.findNow d kv es i = some (some (j, u)) ∧ Rel σ v u ∧ i ≤ j ∧ ∃ e, es[j - i]? = some e ∧ u = e.val ∧ Instr.sameNow d kv e.key = some true
  | .lcons (.lcons k' v) l, es, i, r, he, h => by
    obtain ⟨e, es', rfl, h1, h2, h3⟩ := he.cons_of
    unfold findI at h
    unfold Instr.findNow
    split at h
    · rename_i hb
      simp only [Option.some.injEq] at h
      have hs := eqKey_ok hk h1 hf hb
      rw [hs]
      exact .inr ⟨i, v, e.val, h.symm, rfl, h2, Nat.le_refl _, e, by simp, rfl, hs⟩
    · rename_i hb
      rw [eqKey_ok hk h1 hf hb]
      rcases findI_ok hk hf h3 h with ⟨a, b⟩ | ⟨j, u, u', a, b, c, d', e', f1, f2, f3⟩
      · exact .inl ⟨a, b⟩
      · refine .inr ⟨j, u, u', a, b, c, by omega, e', ?_, f2, f3⟩
        rw [show j - i = (j - (i + 1)) + 1 by omega, List.getElem?_cons_succ]; exact f1
    · cases h
  | .lnil, es, i, r, he, h => by
    have := he.nil_of
    subst this
    simp only [findI, Option.some.injEq] at h
    exact .inl ⟨h.symm, rfl⟩

theorem EsRel.set {k v : AV} {kv vv : Value} (hk : Rel σ k kv) (hv : Rel σ v vv) : ∀ {l : AV} {es : List MapEntry} {i : Nat} {e : MapEntry}, EsRel σ l es → es[i]? = some e → EsRel σ (setI k v i l) (es.set i { e with key := kv, val := vv })
  | .lcons (.lcons k' v') l, es, i, e, he, hi => by
    obtain ⟨e0, es', rfl, h1, h2, h3⟩ := he.cons_of
    cases i with
    | zero => simp only [List.getElem?_cons_zero, Option.some.injEq] at hi; exact ⟨hk, hv, h3⟩
    | succ i => simp only [List.getElem?_cons_succ] at hi; exact ⟨h1, h2, EsRel.set hk hv h3 hi⟩
  | .lnil, es, i, e, he, hi => by
    have := he.nil_of
    subst this
    simp at hi

theorem EsRel.push {k v : AV} {e : MapEntry} (hk : Rel σ k e.key) (hv : Rel σ v e.val) : ∀ {l : AV} {es : List MapEntry}, EsRel σ l es → EsRel σ (pushI k v l) (es ++ [e])
  | .lcons (.lcons k' v') l, es, he => by
    obtain ⟨e0, es', rfl, h1, h2, h3⟩ := he.cons_of
    exact ⟨h1, h2, EsRel.push hk hv h3⟩
  | .lnil, es, he => by
    have := he.nil_of
    subst this
    exact ⟨hk, hv, trivial⟩

theorem EsRel.drop : ∀ {l : AV} {es : List MapEntry} {i : Nat}, EsRel σ l es → i < es.length → EsRel σ (dropI i l) (es.eraseIdx i)
  | .lcons (.lcons k' v') l, es, i, he, hi => by
    obtain ⟨e0, es', rfl, h1, h2, h3⟩ := he.cons_of
    cases i with
    | zero => exact h3
    | succ i => exact ⟨h1, h2, EsRel.drop h3 (by simpa using hi)⟩
  | .lnil, es, i, he, hi => by
    have := he.nil_of
    subst this
    simp at hi

theorem fit_check {d : TypeDesc} {kt : TypeId} {k : AV} {kv : Value} (hk : Rel σ k kv) (hd : P.underlying kt = some d) (hf : fitKey d k = true) (em : Bool) : (Instr.checkKey em 10000 kt kv).run P w = .ok () w := by
  show (Instr.checkKey em (9999 + 1) kt kv).run P w = _
  cases d <;> cases k <;> simp [fitKey] at hf <;> cases hk <;> (unfold Instr.checkKey; simp only [Sem.run_bind, run_underlying' hd, Result.andThen_ok]; rfl)

theorem run_findKey' {kt : TypeId} {d : TypeDesc} {k : Value} {l : List MapEntry} {a : Option (Nat × Value)} (hd : P.underlying kt = some d) (h : Instr.findNow d k l 0 = some a) : (Instr.findKey kt k l).run P w = .ok a w := by
  unfold Instr.findKey
  simp only [Sem.run_bind, run_underlying' hd, Result.andThen_ok, h]; rfl

theorem same_bits {d : TypeDesc} {a b : Value} (h : Instr.sameNow d a b = some true) : Instr.sameBits 10000 b a = true := by
  unfold Instr.sameNow at h
  split at h
  · rename_i k x k' y
    split at h
    · rename_i hk
      simp only [Option.some.injEq, beq_iff_eq] at h
      subst hk; subst h
      simp [Instr.sameBits]
    · cases h
  · simp only [Option.some.injEq] at h
    have := (Go.MapKept.bytes_beq _ _).1 h
    subst this
    simp only [Instr.sameBits]; exact (Go.MapKept.bytes_beq _ _).2 rfl
  · simp only [Option.some.injEq, beq_iff_eq] at h
    subst h
    simp [Instr.sameBits]
  · cases h

theorem same_eq {d : TypeDesc} {a b : Value} (h : Instr.sameNow d a b = some true) : a = b := by
  unfold Instr.sameNow at h
  split at h
  · split at h
    · rename_i hk
      simp only [Option.some.injEq, beq_iff_eq] at h
      rw [hk, h]
    · cases h
  · simp only [Option.some.injEq] at h
    rw [(Go.MapKept.bytes_beq _ _).1 h]
  · simp only [Option.some.injEq, beq_iff_eq] at h
    rw [h]
  · cases h

theorem same_self {d : TypeDesc} {k : AV} {kv : Value} (hk : Rel σ k kv) (hf : fitKey d k = true) : Instr.sameNow d kv kv = some true := by
  cases d <;> cases k <;> simp [fitKey] at hf <;> cases hk <;> simp [Instr.sameNow]
  exact (Go.MapKept.bytes_beq _ _).2 rfl

theorem find_none {d : TypeDesc} {kv : Value} (hself : Instr.sameNow d kv kv = some true) : ∀ {es : List MapEntry} {i : Nat}, Instr.findNow d kv es i = some none → ∀ e ∈ es, e.key ≠ kv
  | [], i, _, e, he => by cases he
  | x :: es, i, h, e, he => by
    unfold Instr.findNow at h
    split at h
    · cases h
    · rename_i hs
      rcases List.mem_cons.1 he with rfl | he
      · intro hk
        rw [hk, hself] at hs
        cases hs
      · exact find_none hself h e he
    · cases h

end
end I
end Go.Proofs.YtpaekplhcjleaaaGreatDoor
