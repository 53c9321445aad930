import Derived.Test.YtpaekplhcjleaaaGreatDoorI5
namespace Go.Proofs.YtpaekplhcjleaaaGreatDoor
namespace I
open K (one aggB run_underlying' run_sizeOf' add_none run_v)
set_option linter.unusedVariables false

def isA : TypeDesc → Bool
  | .struct _ | .array _ _ => true
  | _ => false

def apartA (P : Program) (ty : TypeId) (n : Nat) (t : AV) (off : Nat) : Option AV :=
  match P.underlying ty, P.info? ty with
  | some d, some inf => bif isA d then
      bif Nat.ble (off + inf.size) n then some (.agg inf.size (crow (lg n) t off inf.size)) else none
    else bif Nat.blt off n then some (cget (lg n) t off) else none
  | _, _ => none

section
variable {P : Program} {σ : Sg} {w : World}

theorem run_isA {ty : TypeId} {d : TypeDesc} (h : P.underlying ty = some d) : (isAgg ty).run P w = .ok (isA d) w := by
  simp only [isAgg, Sem.run_bind, run_underlying' h, Result.andThen_ok]
  cases d <;> rfl

theorem RowRel.sub {n m off : Nat} {t : AV} {cs : Array Value} (h : RowRel σ n t cs) (ho : off + m ≤ n) : RowRel σ m (crow (lg n) t off m) (cs.extract off (off + m)) := by
  have hn := lg_le n
  have hsz : (cs.extract off (off + m)).size = m := by simp [h.1]; omega
  have hget : ∀ (i : Nat) v, (cs.extract off (off + m))[i]? = some v → i < m ∧ cs[off + i]? = some v := by
    intro i v hv
    have hi : i < m := by rw [← hsz]; exact (Array.getElem?_eq_some_iff.1 hv).1
    refine ⟨hi, ?_⟩
    rw [Array.getElem?_extract, h.1] at hv
    split at hv
    · exact hv
    · cases hv
  refine ⟨hsz, fun i v hv => h.2.1 _ v (hget i v hv).2, fun i v hv => ?_⟩
  obtain ⟨hi, hv⟩ := hget i v hv
  rw [cget_crow (by omega) hi]
  exact h.2.2 _ v hv

theorem apartA_ok {ty : TypeId} {n off : Nat} {t a : AV} {cs : Array Value} (hr : RowRel σ n t cs) (h : apartA P ty n t off = some a) : ∃ v, Rel σ a v ∧ (part ty cs off).run P w = .ok v w := by
  unfold apartA at h
  split at h
  · rename_i d inf hu hi
    cases hd : isA d with
    | true =>
      simp only [hd, cond_true] at h
      cases hb : Nat.ble (off + inf.size) n with
      | false => simp [hb] at h
      | true =>
        simp only [hb, cond_true, Option.some.injEq] at h
        subst h
        have hs := hr.sub (m := inf.size) (ble_iff.1 hb)
        refine ⟨_, .agg _ _ _ hs.1 hs.2.1 hs.2.2, ?_⟩
        simp [part, run_isA hu, hd, run_sizeOf' hi]
    | false =>
      simp only [hd, cond_false] at h
      cases hb : Nat.blt off n with
      | false => simp [hb] at h
      | true =>
        simp only [hb, cond_true, Option.some.injEq] at h
        subst h
        have hlt := blt_iff.1 hb
        have hg : cs[off]? = some (cs[off]'(by rw [hr.1]; exact hlt)) := Array.getElem?_eq_getElem _
        refine ⟨_, hr.2.2 off _ hg, ?_⟩
        simp [part, run_isA hu, hd, hg]
  · cases h

/-! ### Slicing -/
def bndA (x : Option AV) (dflt : Nat) : Option Nat :=
  match x with
  | none => some dflt
  | some (.int _ (.ofNat n)) => some n
  | _ => none

theorem run_sliceBound {k : IntKind} {n y : Nat} {code : BoundsCode} (h : n ≤ y) : (Instr.sliceBound (.int k (n : Int)) y code).run P w = .ok n w := by
  have := K.run_sliceBound (P := P) (w := w) (x := .int k (n : Int)) (y := y) (code := code) rfl (by omega) (by simpa using h)
  simpa using this

theorem run_bounds {isS : Bool} {len cap l h : Nat} {lo hi : Option AV} {lo' hi' : Option Value} (hl : bndA lo 0 = some l) (hh : bndA hi len = some h) (h1 : l ≤ h) (h2 : h ≤ cap)
    (rl : ∀ a v, lo = some a → lo' = some v → Rel σ a v) (rh : ∀ a v, hi = some a → hi' = some v → Rel σ a v) (nl : lo.isSome = lo'.isSome) (nh : hi.isSome = hi'.isSome) :
    (Instr.sliceBounds isS len cap lo' hi' none).run P w = .ok (l, h, cap) w := by
  have key : ∀ (x : Option AV) (x' : Option Value) (d m : Nat), bndA x d = some m → (∀ a v, x = some a → x' = some v → Rel σ a v) → x.isSome = x'.isSome → (x' = none ∧ m = d) ∨ ∃ k, x' = some (.int k (.ofNat m)) := by
    intro x x' d m hb hr hn
    cases x with
    | none =>
      cases x' with
      | none => simp only [bndA, Option.some.injEq] at hb; exact .inl ⟨rfl, hb.symm⟩
      | some v => simp at hn
    | some a =>
      cases x' with
      | none => simp at hn
      | some v =>
        have hr' := hr a v rfl rfl
        unfold bndA at hb
        split at hb
        · rename_i he; cases he
        · rename_i k q he
          simp only [Option.some.injEq] at he hb
          subst he; subst hb
          cases hr' with
          | int _ _ => exact .inr ⟨k, rfl⟩
        · cases hb
  unfold Instr.sliceBounds
  rcases key lo lo' 0 l hl rl nl with ⟨rfl, rfl⟩ | ⟨k, rfl⟩ <;> rcases key hi hi' len h hh rh nh with ⟨rfl, rfl⟩ | ⟨k', rfl⟩ <;>
    simp [run_sliceBound h1, run_sliceBound h2]

def asliceA (P : Program) (ty : TypeId) (x : AV) (lo hi : Option AV) : Option AV :=
  match P.underlying ty, x with
  | some .string, .str n s => match bndA lo 0, bndA hi n with
    | some l, some h => bif Nat.ble l h && Nat.ble h n then some (.str (h - l) (s / 256 ^ (n - h) % 256 ^ (h - l))) else none
    | _, _ => none
  | some (.slice e), .sl b off len lb sz => match bndA lo 0, bndA hi len, P.info? e with
    | some l, some h, some inf => bif Nat.beq inf.size sz && (Nat.ble l h && Nat.ble h lb) then some (.sl b (off + l * sz) (h - l) (lb - l) sz) else none
    | _, _, _ => none
  | some (.slice e), .nils => match bndA lo 0, bndA hi 0, P.info? e with
    | some 0, some 0, some _ => some .nils
    | _, _, _ => none
  | some (.array n e), .ptr b off => match bndA lo 0, bndA hi n, P.info? e with
    | some l, some h, some inf => bif Nat.ble l h && Nat.ble h n then some (.sl b (off + l * inf.size) (h - l) (n - l) inf.size) else none
    | _, _, _ => none
  | _, _ => none

theorem addr_if (b off l m cap : Nat) : (if cap = l then (⟨b, off, none⟩ : Addr) else Addr.add ⟨b, off, none⟩ m) = ⟨b, if cap = l then off else off + m, none⟩ := K.addr_if b off l m cap

theorem asliceA_ok {ty : TypeId} {x a : AV} {vx : Value} {lo hi : Option AV} {lo' hi' : Option Value} (h : asliceA P ty x lo hi = some a) (hx : Rel σ x vx)
    (rl : ∀ a v, lo = some a → lo' = some v → Rel σ a v) (rh : ∀ a v, hi = some a → hi' = some v → Rel σ a v) (nl : lo.isSome = lo'.isSome) (nh : hi.isSome = hi'.isSome)
    (hsz : ∀ b off n e, x = .ptr b off → P.underlying ty = some (.array n e) → ∀ inf, P.info? e = some inf → ∀ r base size, σ b = some (r, base, size) → base + off + n * inf.size ≤ size) :
    ∃ v, Rel σ a v ∧ (Instr.sliceAt ty vx lo' hi' none).run P w = .ok v w := by
  unfold asliceA at h
  split at h
  · rename_i n s hu
    cases hx with
    | str t _ _ hn hs =>
    split at h
    · rename_i l hh h1 h2
      cases hb : (Nat.ble l hh && Nat.ble hh n) with
      | false => simp [hb] at h
      | true =>
        simp only [hb, cond_true, Option.some.injEq] at h
        simp only [Bool.and_eq_true] at hb
        have e1 := ble_iff.1 hb.1
        have e2 := ble_iff.1 hb.2
        subst hn
        have hr := run_bounds (P := P) (w := w) (isS := false) (cap := t.size) h1 h2 e1 e2 rl rh nl nh
        refine ⟨.string (t.extract l hh), ?_, ?_⟩
        · subst h
          have hd : (t.extract l hh).data.toList = (t.data.toList.drop l).take (hh - l) := by
            simp [ByteArray.extract, ByteArray.copySlice]
          refine .str _ _ _ (by simp [ByteArray.size_extract]; omega) ?_
          rw [hd, val_extract e1 (by simpa using e2), hs]
          simp
        · simp [Instr.sliceAt, run_underlying' hu, Instr.slice, hr]
    · cases h
  · rename_i e b off len lb sz hu
    cases hx with
    | sl _ _ _ _ _ r base size o cap hb h1 h2 h3 h4 =>
    split at h
    · rename_i l hh inf q1 q2 q3
      cases hc : (Nat.beq inf.size sz && (Nat.ble l hh && Nat.ble hh lb)) with
      | false => simp [hc] at h
      | true =>
        simp only [hc, cond_true, Option.some.injEq] at h
        simp only [Bool.and_eq_true] at hc
        have e0 := beqn_iff.1 hc.1
        have e1 := ble_iff.1 hc.2.1
        have e2 := ble_iff.1 hc.2.2
        have hr := run_bounds (P := P) (w := w) (isS := true) (cap := cap) q1 q2 e1 (by omega) rl rh nl nh
        subst h
        refine ⟨.slice (some ⟨r, if cap = l then o else o + l * sz, none⟩) (hh - l) (cap - l), .sl _ _ _ _ _ r base size _ _ hb (by omega) (by omega) (fun hne => ?_) ?_, ?_⟩
        · rw [if_neg (by omega), h3 (by omega)]; omega
        · split
          · rename_i hcl; subst hcl; simp; omega
          · have : l * sz + (cap - l) * sz = cap * sz := by rw [← Nat.add_mul]; congr 1; omega
            omega
        · simp only [Instr.sliceAt, Sem.run_bind, run_underlying' hu, Result.andThen_ok, Instr.slice, hr, run_sizeOf' q3, Option.map_some, e0]
          rw [← addr_if]
          split <;> rfl
    · cases h
  · rename_i e hu
    cases hx
    split at h
    · rename_i inf q1 q2 q3
      simp only [Option.some.injEq] at h
      subst h
      have hr := run_bounds (P := P) (w := w) (isS := true) (cap := 0) q1 q2 (Nat.le_refl _) (Nat.le_refl _) rl rh nl nh
      exact ⟨_, .nils, by simp [Instr.sliceAt, run_underlying' hu, Instr.slice, hr, run_sizeOf' q3]⟩
    · cases h
  · rename_i n e b off hu
    cases hx with
    | ptr _ _ r base size o hb ho =>
    split at h
    · rename_i l hh inf q1 q2 q3
      cases hc : (Nat.ble l hh && Nat.ble hh n) with
      | false => simp [hc] at h
      | true =>
        simp only [hc, cond_true, Option.some.injEq] at h
        simp only [Bool.and_eq_true] at hc
        have e1 := ble_iff.1 hc.1
        have e2 := ble_iff.1 hc.2
        have hr := run_bounds (P := P) (w := w) (isS := false) (cap := n) q1 q2 e1 e2 rl rh nl nh
        have hsz' := hsz b off n e rfl hu inf q3 r base size hb
        subst h
        refine ⟨.slice (some ⟨r, if n = l then o else o + l * inf.size, none⟩) (hh - l) (n - l), .sl _ _ _ _ _ r base size _ _ hb (by omega) (by omega) (fun hne => ?_) ?_, ?_⟩
        · rw [if_neg (by omega)]; omega
        · split
          · rename_i hcl; subst hcl; simp; have : o ≤ o + n * inf.size := by omega
            omega
          · have : l * inf.size + (n - l) * inf.size = n * inf.size := by rw [← Nat.add_mul]; congr 1; omega
            omega
        · simp only [Instr.sliceAt, Sem.run_bind, run_underlying' hu, Result.andThen_ok, Instr.sureAddr, Sem.run_pure, hr, run_sizeOf' q3]
          rw [← addr_if]
    · cases h
  · cases h


end
end I
end Go.Proofs.YtpaekplhcjleaaaGreatDoor
