import Derived.Test.YtpaekplhcjleaaaGreatDoorI7
namespace Go.Proofs.YtpaekplhcjleaaaGreatDoor
namespace I
open K (one aggB run_underlying' run_sizeOf' add_none run_v)
set_option linter.unusedVariables false

/-! ### Operations that look at their operands alone -/
def isSh : BinOp → Bool
  | .shl | .shr => true
  | _ => false

def abin (P : Program) (op : BinOp) (ty : TypeId) (x y : AV) : Option AV :=
  match x, y with
  | .int k a, .int k' b => bif isSh op then shI op k a b else bif Nat.beq (kn k) (kn k') then binI op k a b else none
  | .str n a, .str m b => binS op n a m b
  | x, y => match aeq P ty x y with
    | some b => eqOp op b
    | none => none

def placeOf (P : Program) (fs : Array Field) (i : Nat) : Option (Nat × Nat) :=
  match fs[i]? with
  | some f => match P.info? f.type with
    | some inf => some (f.offset, inf.size)
    | none => none
  | none => none

def isItf : TypeDesc → Bool
  | .interface _ => true
  | _ => false

def apure (P : Program) (ρ : Operand → AV) (o : Oper) : Option AV :=
  match o.op with
  | .move x => some (ρ x)
  | .assign x => some (ρ x)
  | .pick c a b => match ρ c with
    | .bool t => some (bif t then ρ a else ρ b)
    | _ => none
  | .nilCheck x => match ρ x with
    | .ptr b off => some (.ptr b off)
    | .fn f a b => some (.fn f a b)
    | .ifc t v => some (.ifc t v)
    | _ => none
  | .binOp op ty x y _ => abin P op ty (ρ x) (ρ y)
  | .unOp .not _ x => match ρ x with
    | .bool b => some (.bool (!b))
    | _ => none
  | .unOp .neg _ x => match ρ x with
    | .int k n => some (.int k (wrapF k (0 - n)))
    | _ => none
  | .unOp .xor _ x => match ρ x with
    | .int k n => bif k.signed then none else binI .xor k (maxN k) n
    | _ => none
  | .convert src dst x => match P.underlying src, P.underlying dst, ρ x with
    | some _, some (.int k'), .int _ n => some (.int k' (wrapF k' n))
    | some _, some .string, .str n s => some (.str n s)
    | _, _, _ => none
  | .makeInterface t x => bif P.concrete t then some (.ifc t (ρ x)) else none
  | .makeFunc (.func f) first caps => some (.fn f (ofList (first.toList.map ρ)) (ofList (caps.toList.map ρ)))
  | .slice ty x lo hi none => match ρ x with
    | .ptr _ _ => none
    | a => asliceA P ty a (lo.map ρ) (hi.map ρ)
  | .fieldAddr s x f => match P.underlying s, ρ x with
    | some (.struct fs), .ptr b off => match fs[f]? with
      | some fl => match P.info? fl.type with
        | some inf => bif Nat.beq inf.size 0 then none else some (.ptr b (off + fl.offset))
        | none => none
      | none => none
    | _, _ => none
  | .field s x f => match P.underlying s, ρ x with
    | some (.struct fs), .agg n t => match fs[f]? with
      | some fl => apartA P fl.type n t fl.offset
      | none => none
    | _, _ => none
  | .indexAddr ty x ix => match P.underlying ty, ρ x, ρ ix with
    | some (.slice e), .sl b off len _ sz, .int _ (.ofNat i) => match P.info? e with
      | some inf => bif Nat.beq inf.size sz && Nat.blt i len then some (.ptr b (off + i * sz)) else none
      | none => none
    | some (.array len e), .ptr b off, .int _ (.ofNat i) => match P.info? e with
      | some inf => bif Nat.blt i len then some (.ptr b (off + i * inf.size)) else none
      | none => none
    | _, _, _ => none
  | .index ty x ix => match P.underlying ty, ρ x, ρ ix with
    | some .string, .str n s, .int _ (.ofNat i) => bif Nat.blt i n then some (.int .u8 (.ofNat (sbyte n s i))) else none
    | some (.array len e), .agg n t, .int _ (.ofNat i) => match P.info? e with
      | some inf => bif Nat.blt i len then apartA P e n t (i * inf.size) else none
      | none => none
    | _, _, _ => none
  | .extract t i => match ρ t with
    | .tup l => (toList l)[i]?
    | _ => none
  | .build t ps => match zeroA P t, P.underlying t with
    | .agg n z, some (.struct fs) => match fillA (placeOf P fs) n (ps.toList.map fun p => (p.1, ρ p.2)) z with
      | some u => bif (fs.all fun f => (P.info? f.type).isSome) then some (.agg n u) else none
      | none => none
    | .agg n z, some (.array _ e) => match P.info? e with
      | some inf => match fillA (fun i => some (i * inf.size, inf.size)) n (ps.toList.map fun p => (p.1, ρ p.2)) z with
        | some u => some (.agg n u)
        | none => none
      | none => none
    | _, _ => none
  | .call ⟨.builtin .len, ⟨[x]⟩, ⟨[ty]⟩⟩ => match P.underlying ty, ρ x with
    | some .string, .str n _ => some (.int .i64 (.ofNat n))
    | some (.slice _), .sl _ _ n _ _ => some (.int .i64 (.ofNat n))
    | some (.slice _), .nils => some (.int .i64 0)
    | some (.map _ _), .nilm => some (.int .i64 0)
    | some (.array n _), _ => some (.int .i64 (.ofNat n))
    | _, _ => none
  | .call ⟨.builtin .max, ⟨[x, y]⟩, _⟩ => match ρ x, ρ y with
    | .int k a, .int _ b => some (.int k (bif ilt a b then b else a))
    | _, _ => none
  | .call ⟨.builtin .min, ⟨[x, y]⟩, _⟩ => match ρ x, ρ y with
    | .int k a, .int _ b => some (.int k (bif ilt b a then b else a))
    | _, _ => none
  | .call ⟨.builtin .unsafeSliceData, ⟨[x]⟩, _⟩ => match ρ x with
    | .sl b off _ lb _ => bif Nat.beq lb 0 then none else some (.ptr b off)
    | .nils => some .nilp
    | _ => none
  | .slice ty x lo (some hi) (some mx) => match P.underlying ty, ρ x, bndA (lo.map ρ) 0, bndA (some (ρ hi)) 0, bndA (some (ρ mx)) 0 with
    | some (.slice e), .sl b off len lb sz, some l, some h, some m => match P.info? e with
      | some inf => bif Nat.beq inf.size sz && (Nat.ble l h && (Nat.ble h m && Nat.ble m lb)) then some (.sl b (off + l * sz) (h - l) (m - l) sz) else none
      | none => none
    | _, _, _, _, _ => none
  | .typeAssert x _ t false => match P.underlying t, ρ x with
    | some d, .ifc t' v => bif isItf d || !(Nat.beq t' t) then none else some v
    | _, _ => none
  | .call ⟨.builtin .cap, ⟨[x]⟩, ⟨[ty]⟩⟩ => match P.underlying ty, ρ x with
    | some (.slice _), .nils => some (.int .i64 0)
    | _, _ => none
  | _ => none

section
variable {P : Program} {σ : Sg} {w : World}

theorem run_bounds3 {len cap l h m : Nat} {lo : Option AV} {hi mx : AV} {lo' : Option Value} {hi' mx' : Value} (hl : bndA lo 0 = some l) (hh : bndA (some hi) 0 = some h) (hm : bndA (some mx) 0 = some m) (h1 : l ≤ h) (h2 : h ≤ m) (h3 : m ≤ cap)
    (rl : ∀ a v, lo = some a → lo' = some v → Rel σ a v) (nl : lo.isSome = lo'.isSome) (rh : Rel σ hi hi') (rm : Rel σ mx mx') :
    (Instr.sliceBounds true len cap lo' (some hi') (some mx')).run P w = .ok (l, h, m) w := by
  have key : ∀ (a : AV) (v : Value) (n : Nat), bndA (some a) 0 = some n → Rel σ a v → ∃ k, v = .int k (.ofNat n) := by
    intro a v n hb hr
    unfold bndA at hb
    split at hb
    · rename_i he; cases he
    · rename_i k q he
      simp only [Option.some.injEq] at he hb
      subst he; subst hb
      cases hr with
      | int _ _ => exact ⟨k, rfl⟩
    · cases hb
  obtain ⟨k1, rfl⟩ := key hi hi' h hh rh
  obtain ⟨k2, rfl⟩ := key mx mx' m hm rm
  unfold Instr.sliceBounds
  cases lo with
  | none =>
    cases lo' with
    | none =>
      simp only [bndA, Option.some.injEq] at hl
      subst hl
      simp [run_sliceBound h2, run_sliceBound h3]
    | some v => simp at nl
  | some a =>
    cases lo' with
    | none => simp at nl
    | some v =>
      obtain ⟨k3, rfl⟩ := key a v l hl (rl a v rfl rfl)
      simp [run_sliceBound h1, run_sliceBound h2, run_sliceBound h3]

theorem abin_ok {op : BinOp} {ty : TypeId} {x y a : AV} {vx vy : Value} (h : abin P op ty x y = some a) (hx : Rel σ x vx) (hy : Rel σ y vy) :
    ∃ v, Rel σ a v ∧ (binOp op ty vx vy).run P w = .ok v w ∧ ∀ p q, (eqGuard op ty p q vx vy).run P w = .ok () w := by
  unfold abin at h
  split at h
  · rename_i k m k' n
    cases hx; cases hy
    have hg : ∀ p q, (eqGuard op ty p q (Value.int k m) (Value.int k' n)).run P w = .ok () w := fun p q => by cases op <;> rfl
    cases hs : isSh op with
    | true =>
      simp only [hs, cond_true] at h
      obtain ⟨v, h1, h2⟩ := shI_ok (P := P) (σ := σ) (w := w) (ty := ty) (k' := k') h
      exact ⟨v, h1, h2, hg⟩
    | false =>
      simp only [hs, cond_false] at h
      cases hk : Nat.beq (kn k) (kn k') with
      | false => simp [hk] at h
      | true =>
        simp only [hk, cond_true] at h
        have := kn_inj hk
        subst this
        obtain ⟨v, h1, h2⟩ := binI_ok (P := P) (σ := σ) (w := w) (ty := ty) h
        exact ⟨v, h1, h2, hg⟩
  · cases hx with
    | str s _ _ hn hs =>
    cases hy with
    | str t _ _ hm ht =>
    subst hn; subst hs; subst hm; subst ht
    obtain ⟨v, h1, h2⟩ := binS_ok (P := P) (σ := σ) (w := w) (ty := ty) h
    exact ⟨v, h1, h2, fun p q => by cases op <;> rfl⟩
  · split at h
    · rename_i b hb
      obtain ⟨h1, h2, h3⟩ := aeq_ok (w := w) hb hx hy
      obtain ⟨v, h4, h5⟩ := run_eqOp (P := P) (w := w) (σ := σ) h h2 h1
      exact ⟨v, h4, h5, h3 op⟩
    · cases h

theorem ofList_rel {ρ : Operand → AV} {ev : Operand → Value} (hρ : ∀ x, Rel σ (ρ x) (ev x)) (xs : Array Operand) :
    (toList (ofList (xs.toList.map ρ))).length = (xs.map ev).size ∧ ∀ (i : Nat) a v, (toList (ofList (xs.toList.map ρ)))[i]? = some a → (xs.map ev)[i]? = some v → Rel σ a v := by
  rw [toList_ofList]
  refine ⟨by simp, fun i a v ha hv => ?_⟩
  simp only [List.getElem?_map, Option.map_eq_some_iff, Array.getElem?_map] at ha hv
  obtain ⟨x, h1, rfl⟩ := ha
  obtain ⟨y, h2, rfl⟩ := hv
  have h1' : xs[i]? = some x := by simpa using h1
  rw [h1'] at h2
  simp only [Option.some.injEq] at h2
  subst h2
  exact hρ x

theorem parts_rel {ρ : Operand → AV} {ev : Operand → Value} (hρ : ∀ x, Rel σ (ρ x) (ev x)) (ps : Array (Nat × Operand)) :
    (ps.toList.map fun p => (p.1, ρ p.2)).length = (ps.map fun x => match x with | (i, x) => (i, ev x)).toList.length ∧
    ∀ (i : Nat) p q, (ps.toList.map fun p => (p.1, ρ p.2))[i]? = some p → (ps.map fun x => match x with | (i, x) => (i, ev x)).toList[i]? = some q → p.1 = q.1 ∧ Rel σ p.2 q.2 := by
  refine ⟨by simp, fun i p q hp hq => ?_⟩
  simp only [List.getElem?_map, Option.map_eq_some_iff, Array.toList_map] at hp hq
  obtain ⟨x, h1, rfl⟩ := hp
  obtain ⟨y, h2, rfl⟩ := hq
  rw [h1] at h2
  simp only [Option.some.injEq] at h2
  subst h2
  exact ⟨rfl, hρ x.2⟩

theorem run_places {fs : Array Field} (h : (fs.all fun f => (P.info? f.type).isSome) = true) :
    ∃ pl : Array (Nat × Nat), (fs.mapM fun f => do pure (f.offset, ← sizeOf f.type) : Sem _).run P w = .ok pl w ∧ ∀ i, pl[i]? = placeOf P fs i := by
  have key : ∀ (l : List Field), (∀ f ∈ l, (P.info? f.type).isSome = true) → ∃ pl : List (Nat × Nat), (l.mapM fun f => do pure (f.offset, ← sizeOf f.type) : Sem _).run P w = .ok pl w ∧
      ∀ i : Nat, pl[i]? = (l[i]?).bind fun f => (P.info? f.type).map fun inf => (f.offset, inf.size) := by
    intro l
    induction l with
    | nil => intro _; exact ⟨[], rfl, fun i => by simp⟩
    | cons f l ih =>
      intro hl
      obtain ⟨pl, h1, h2⟩ := ih (fun g hg => hl g (List.mem_cons_of_mem _ hg))
      obtain ⟨inf, hi⟩ := Option.isSome_iff_exists.1 (hl f (List.mem_cons_self ..))
      refine ⟨(f.offset, inf.size) :: pl, ?_, fun i => ?_⟩
      · rw [List.mapM_cons]
        simp only [Sem.run_bind, run_sizeOf' hi, Result.andThen_ok, Sem.run_pure, h1]
      · cases i with
        | zero => simp [hi]
        | succ i => simpa using h2 i
  obtain ⟨pl, h1, h2⟩ := key fs.toList (fun f hf => by
    have := Array.all_eq_true_iff_forall_mem.1 h f (Array.mem_toList_iff.1 hf)
    exact this)
  refine ⟨pl.toArray, ?_, fun i => ?_⟩
  · rw [Array.mapM_eq_mapM_toList]
    simp only [map_eq_pure_bind, Sem.run_bind, h1, Result.andThen_ok, Sem.run_pure]
  · simp only [List.getElem?_toArray, h2 i, placeOf]
    rw [show fs.toList[i]? = fs[i]? by simp]
    cases fs[i]? with
    | none => rfl
    | some f => simp only [Option.bind_some]; cases P.info? f.type <;> rfl

theorem run_sliceData {tys : Array TypeId} {ty : TypeId} {a : Addr} {n c : Nat} (hc : ¬ c = 0) : (Builtin.unsafeSliceData_ tys ty #[.slice (some a) n c]).run P w = .ok (.pointer (some a)) w := by
  show (if c ≠ 0 then pure (Value.pointer (some a)) else _ : Sem Value).run P w = _
  rw [if_pos hc]; rfl
theorem run_sliceData0 {tys : Array TypeId} {ty : TypeId} {n c : Nat} : (Builtin.unsafeSliceData_ tys ty #[.slice none n c]).run P w = .ok (.pointer none) w := rfl

set_option maxHeartbeats 2000000 in
theorem apure_ok {ρ : Operand → AV} {ev : Operand → Value} {o : Oper} {a : AV} (hρ : ∀ x, Rel σ (ρ x) (ev x)) (h : apure P ρ o = some a) :
    ∃ v, Rel σ a v ∧ (execOp ev o).run P w = .ok (.value v) w := by
  obtain ⟨dst, op, oty, pos, after, guard⟩ := o
  unfold apure at h
  dsimp only at h
  split at h
  · rename_i x
    simp only [Option.some.injEq] at h; subst h
    exact ⟨ev x, hρ x, by simp [execOp]⟩
  · rename_i x
    simp only [Option.some.injEq] at h; subst h
    exact ⟨ev x, hρ x, by simp [execOp]⟩
  · rename_i c x y
    split at h
    · rename_i t ht
      simp only [Option.some.injEq] at h; subst h
      have hc := hρ c
      rw [ht] at hc
      generalize hcv : ev c = cv at hc
      cases hc
      cases t with
      | true => exact ⟨ev x, hρ x, by simp [execOp, hcv, asBool]⟩
      | false => exact ⟨ev y, hρ y, by simp [execOp, hcv, asBool]⟩
    · cases h
  · rename_i x
    have hx := hρ x
    generalize hxv : ev x = xv at hx
    split at h
    · rename_i b off he
      simp only [Option.some.injEq] at h; subst h
      rw [he] at hx
      refine ⟨xv, hx, ?_⟩
      cases hx
      simp [execOp, hxv]
    · rename_i f p q he
      simp only [Option.some.injEq] at h; subst h
      rw [he] at hx
      refine ⟨xv, hx, ?_⟩
      cases hx
      simp [execOp, hxv]
    · rename_i t u he
      simp only [Option.some.injEq] at h; subst h
      rw [he] at hx
      refine ⟨xv, hx, ?_⟩
      cases hx
      simp [execOp, hxv]
    · cases h
  · rename_i bop bty x y yty
    obtain ⟨v, h1, h2, h3⟩ := abin_ok (w := w) h (hρ x) (hρ y)
    refine ⟨v, h1, ?_⟩
    simp only [execOp, Sem.run_bind, h3 x y, Result.andThen_ok, h2, Sem.run_pure]
  · rename_i t x
    split at h
    · rename_i b hb
      simp only [Option.some.injEq] at h; subst h
      have hx := hρ x
      rw [hb] at hx
      generalize hxv : ev x = xv at hx
      cases hx
      exact ⟨_, .bool _, by simp [execOp, hxv, Op.unary]⟩
    · cases h
  · rename_i t x
    split at h
    · rename_i k n hb
      simp only [Option.some.injEq] at h; subst h
      have hx := hρ x
      rw [hb] at hx
      generalize hxv : ev x = xv at hx
      cases hx
      exact ⟨_, .int _ _, by simp [execOp, hxv, Op.unary, Op.intArith, wrapF_eq]⟩
    · cases h
  · rename_i t x
    split at h
    · rename_i k n hb
      have hx := hρ x
      rw [hb] at hx
      generalize hxv : ev x = xv at hx
      cases hx
      cases hs : k.signed with
      | true => simp [hs] at h
      | false =>
        simp only [hs, cond_false] at h
        obtain ⟨v, h1, h2⟩ := binI_ok (P := P) (σ := σ) (w := w) (ty := 0) h
        refine ⟨v, h1, ?_⟩
        have h3 : k.max = (maxN k : Int) := by cases k <;> first | rfl | simp [IntKind.signed] at hs
        have h4 : (Op.unary .xor (.int k n)).run P w = (binOp .xor 0 (.int k (maxN k : Int)) (.int k n)).run P w := by
          rw [← h3]; simp [Op.unary, hs, binOp]
        simp [execOp, hxv, h4, h2]
    · cases h
  · rename_i src dst x
    have hx := hρ x
    generalize hxv : ev x = xv at hx
    split at h
    · rename_i d0 k' k n h0 h1 h2
      simp only [Option.some.injEq] at h; subst h
      rw [h2] at hx
      cases hx
      exact ⟨_, .int _ _, by simp [execOp, hxv, convert, run_underlying' h0, run_underlying' h1, Conv.intToInt, wrapF_eq]⟩
    · rename_i d0 n s h0 h1 h2
      simp only [Option.some.injEq] at h; subst h
      rw [h2] at hx
      refine ⟨xv, hx, ?_⟩
      cases hx
      simp [execOp, hxv, convert, run_underlying' h0, run_underlying' h1]
    · cases h
  · rename_i t x
    cases hc : P.concrete t with
    | false => simp [hc] at h
    | true =>
      simp only [hc, cond_true, Option.some.injEq] at h; subst h
      exact ⟨.iface t (ev x), .ifc _ _ _ (hρ x), by simp [execOp, run_makeInterface (h := hc)]⟩
  · rename_i f first caps
    simp only [Option.some.injEq] at h; subst h
    obtain ⟨h1, h2⟩ := ofList_rel hρ first
    obtain ⟨h3, h4⟩ := ofList_rel hρ caps
    exact ⟨_, .fn f _ _ _ _ h1 h3 h2 h4, by simp [execOp, Instr.makeFunc]⟩
  · rename_i ty x lo hi
    have hx := hρ x
    split at h
    · cases h
    · rename_i hne
      obtain ⟨v, h1, h2⟩ := asliceA_ok (P := P) (w := w) (lo' := lo.map ev) (hi' := hi.map ev) h hx (fun a v ha hv => by
        cases lo with
        | none => cases ha
        | some y => simp only [Option.map_some, Option.some.injEq] at ha hv; subst ha; subst hv; exact hρ y) (fun a v ha hv => by
        cases hi with
        | none => cases ha
        | some y => simp only [Option.map_some, Option.some.injEq] at ha hv; subst ha; subst hv; exact hρ y) (by cases lo <;> rfl) (by cases hi <;> rfl)
        (fun b off n e he _ => absurd he (hne b off))
      refine ⟨v, h1, ?_⟩
      simp only [execOp, Option.map_none]
      exact run_v h2
  · rename_i s x f
    split at h
    · rename_i fs b off hu he
      split at h
      · rename_i fl hf
        split at h
        · rename_i inf hi
          cases hb : Nat.beq inf.size 0 with
          | true => simp [hb] at h
          | false =>
            simp only [hb, cond_false, Option.some.injEq] at h; subst h
            have h0 : ¬ inf.size = 0 := fun e => by rw [beqn_iff.2 e] at hb; cases hb
            have hx := hρ x
            rw [he] at hx
            generalize hxv : ev x = xv at hx
            cases hx with
            | ptr _ _ r base size o hs ho =>
            refine ⟨_, .ptr _ _ r base size (o + fl.offset) hs (by omega), ?_⟩
            simp [execOp, hxv, Instr.fieldAt, run_underlying' hu, hf, Instr.sureAddr, fieldPlace, run_sizeOf' hi, h0, add_none]
        · cases h
      · cases h
    · cases h
  · rename_i s x f
    split at h
    · rename_i fs n t hu he
      split at h
      · rename_i fl hf
        have hx := hρ x
        rw [he] at hx
        generalize hxv : ev x = xv at hx
        cases hx with
        | agg _ _ cs hn h1 h2 =>
        obtain ⟨v, h3, h4⟩ := apartA_ok (P := P) (w := w) ⟨hn, h1, h2⟩ h
        refine ⟨v, h3, ?_⟩
        simp [execOp, hxv, Instr.field, run_underlying' hu, hf, asAgg, h4]
      · cases h
    · cases h
  · rename_i ty x ix
    have hx := hρ x
    have hi := hρ ix
    generalize hxv : ev x = xv at hx
    generalize hiv : ev ix = iv at hi
    split at h
    · rename_i e b off len lb sz k i hu he1 he2
      split at h
      · rename_i inf hinf
        cases hb : (Nat.beq inf.size sz && Nat.blt i len) with
        | false => simp [hb] at h
        | true =>
          simp only [hb, cond_true, Option.some.injEq] at h; subst h
          simp only [Bool.and_eq_true] at hb
          have e1 := beqn_iff.1 hb.1
          have e2 := blt_iff.1 hb.2
          rw [he1] at hx
          rw [he2] at hi
          cases hi
          cases hx with
          | sl _ _ _ _ _ r base size o cap hs q1 q2 q3 q4 =>
          have := q3 (by omega)
          refine ⟨_, .ptr _ _ r base size (o + i * sz) hs (by omega), ?_⟩
          have c : (0 : Int) ≤ Int.ofNat i ∧ (Int.ofNat i : Int) < (len : Int) := by simp; omega
          simp only [execOp, hxv, hiv, Instr.indexAt, asIntOf, run_underlying' hu, run_sizeOf' hinf, Sem.run_bind, Sem.run_pure, Result.andThen_ok, c, and_self, if_true, add_none, e1]
          rfl
      · cases h
    · rename_i len e b off k i hu he1 he2
      split at h
      · rename_i inf hinf
        cases hb : Nat.blt i len with
        | false => simp [hb] at h
        | true =>
          simp only [hb, cond_true, Option.some.injEq] at h; subst h
          have e2 := blt_iff.1 hb
          rw [he1] at hx
          rw [he2] at hi
          cases hi
          cases hx with
          | ptr _ _ r base size o hs ho =>
          refine ⟨_, .ptr _ _ r base size (o + i * inf.size) hs (by omega), ?_⟩
          have c : (0 : Int) ≤ Int.ofNat i ∧ (Int.ofNat i : Int) < (len : Int) := by simp; omega
          simp only [execOp, hxv, hiv, Instr.indexAt, asIntOf, run_underlying' hu, run_sizeOf' hinf, Sem.run_bind, Sem.run_pure, Result.andThen_ok, c, and_self, if_true, add_none, Instr.sureAddr]
          rfl
      · cases h
    · cases h
  · rename_i ty x ix
    have hx := hρ x
    have hi := hρ ix
    generalize hxv : ev x = xv at hx
    generalize hiv : ev ix = iv at hi
    split at h
    · rename_i n s k i hu he1 he2
      cases hb : Nat.blt i n with
      | false => simp [hb] at h
      | true =>
        simp only [hb, cond_true, Option.some.injEq] at h; subst h
        have e2 := blt_iff.1 hb
        rw [he1] at hx
        rw [he2] at hi
        cases hi
        cases hx with
        | str t _ _ hn hs =>
        subst hn; subst hs
        have hl : i < t.data.toList.length := by simpa using e2
        refine ⟨_, .int _ _, ?_⟩
        have hg := val_get hl
        have hlen : t.data.toList.length = t.size := by simp
        rw [hlen] at hg
        have c : (0 : Int) ≤ Int.ofNat i := by simp
        have hgi : t[i]? = some (t.data.toList[i]) := by
          have : t[i]? = some (t[i]'e2) := getElem?_pos t i e2
          rw [this]; rfl
        simp only [execOp, hxv, hiv, Instr.index, asIntOf, run_underlying' hu, Sem.run_bind, Sem.run_pure, Result.andThen_ok, c, if_true]
        rw [show (Int.ofNat i).toNat = i from rfl, hgi]
        simp only [Sem.run_pure, Result.andThen_ok, hg]
        rfl
    · rename_i len e n t k i hu he1 he2
      split at h
      · rename_i inf hinf
        cases hb : Nat.blt i len with
        | false => simp [hb] at h
        | true =>
          simp only [hb, cond_true] at h
          have e2 := blt_iff.1 hb
          rw [he1] at hx
          rw [he2] at hi
          cases hi
          cases hx with
          | agg _ _ cs hn h1 h2 =>
          obtain ⟨v, h3, h4⟩ := apartA_ok (P := P) (w := w) ⟨hn, h1, h2⟩ h
          refine ⟨v, h3, ?_⟩
          have c : (0 : Int) ≤ Int.ofNat i ∧ (Int.ofNat i : Int) < (len : Int) := by simp; omega
          simp only [execOp, hxv, hiv, Instr.index, asIntOf, run_underlying' hu, run_sizeOf' hinf, Sem.run_bind, Sem.run_pure, Result.andThen_ok, c, and_self, if_true]
          rw [show (Int.ofNat i).toNat = i from rfl, h4]
          rfl
      · cases h
    · cases h
  · rename_i t i
    split at h
    · rename_i l he
      have hx := hρ t
      rw [he] at hx
      generalize hxv : ev t = xv at hx
      cases hx with
      | tup _ vs h1 h2 =>
      have hlt : i < vs.size := by rw [← h1]; exact (List.getElem?_eq_some_iff.1 h).1
      have hg : vs[i]? = some vs[i] := Array.getElem?_eq_getElem hlt
      exact ⟨vs[i], h2 i a _ h hg, by simp [execOp, hxv, Instr.extract, hg]⟩
    · cases h
  · rename_i t ps
    obtain ⟨q1, q2⟩ := parts_rel hρ ps
    split at h
    · rename_i n z fs hz hu
      obtain ⟨zv, hzv, hzr⟩ := zeroA_ok hz (by simp) σ
      split at h
      · rename_i u hf
        cases hb : (fs.all fun f => (P.info? f.type).isSome) with
        | false => simp [hb] at h
        | true =>
          simp only [hb, cond_true, Option.some.injEq] at h; subst h
          cases hzr with
          | agg _ _ cs hn h1 h2 =>
          obtain ⟨pl, h3, h4⟩ := run_places (P := P) (w := w) hb
          have h5 : (fun i => pl[i]?) = placeOf P fs := funext h4
          obtain ⟨cs', h6, h7⟩ := fillA_ok q1 q2 ⟨hn, h1, h2⟩ hf
          refine ⟨.agg cs', .agg _ _ _ h7.1 h7.2.1 h7.2.2, ?_⟩
          simp only [execOp]
          refine run_v ?_
          simp only [Instr.build, Sem.run_bind, run_zeroValue hzv, Result.andThen_ok, run_underlying' hu, h3, Value.cells, h5, h6, Sem.run_pure]
      · cases h
    · rename_i n z len e hz hu
      obtain ⟨zv, hzv, hzr⟩ := zeroA_ok hz (by simp) σ
      split at h
      · rename_i inf hinf
        split at h
        · rename_i u hf
          simp only [Option.some.injEq] at h; subst h
          cases hzr with
          | agg _ _ cs hn h1 h2 =>
          obtain ⟨cs', h6, h7⟩ := fillA_ok q1 q2 ⟨hn, h1, h2⟩ hf
          refine ⟨.agg cs', .agg _ _ _ h7.1 h7.2.1 h7.2.2, ?_⟩
          simp only [execOp]
          refine run_v ?_
          simp only [Instr.build, Sem.run_bind, run_zeroValue hzv, Result.andThen_ok, run_underlying' hu, run_sizeOf' hinf, Value.cells, h6, Sem.run_pure]
        · cases h
      · cases h
    · cases h
  · rename_i x ty
    have hx := hρ x
    generalize hxv : ev x = xv at hx
    have hrun : ∀ v, (Builtin.len_ #[ty] oty #[xv]).run P w = .ok v w → (execOp ev ⟨dst, .call ⟨.builtin .len, ⟨[x]⟩, ⟨[ty]⟩⟩, oty, pos, after, guard⟩).run P w = .ok (.value v) w := by
      intro v hv
      simp [execOp, resolve, invoke, builtin, hxv, hv]
    split at h
    · rename_i n s hu he
      simp only [Option.some.injEq] at h; subst h
      rw [he] at hx
      cases hx with
      | str t _ _ hn hs =>
      subst hn
      exact ⟨_, .int _ _, hrun _ (by simp [Builtin.len_, run_underlying' hu, goInt])⟩
    · rename_i e b off n lb sz hu he
      simp only [Option.some.injEq] at h; subst h
      rw [he] at hx
      cases hx
      exact ⟨_, .int _ _, hrun _ (by simp [Builtin.len_, run_underlying' hu, goInt])⟩
    · rename_i e hu he
      simp only [Option.some.injEq] at h; subst h
      rw [he] at hx
      cases hx
      exact ⟨_, .int _ _, hrun _ (by simp [Builtin.len_, run_underlying' hu, goInt])⟩
    · rename_i e e' hu he
      simp only [Option.some.injEq] at h; subst h
      rw [he] at hx
      cases hx
      exact ⟨_, .int _ _, hrun _ (by simp [Builtin.len_, run_underlying' hu, goInt])⟩
    · rename_i n e hu
      simp only [Option.some.injEq] at h; subst h
      exact ⟨_, .int _ _, hrun _ (by simp [Builtin.len_, run_underlying' hu, goInt])⟩
    · cases h
  · rename_i x y tys
    have hx := hρ x
    have hy := hρ y
    generalize hxv : ev x = xv at hx
    generalize hyv : ev y = yv at hy
    split at h
    · rename_i k m k' n he1 he2
      simp only [Option.some.injEq] at h; subst h
      rw [he1] at hx
      rw [he2] at hy
      cases hx; cases hy
      refine ⟨_, .int _ _, ?_⟩
      rw [ilt_eq]
      by_cases hc : m < n
      · simp [execOp, resolve, invoke, builtin, hxv, hyv, Builtin.max_, Builtin.max2, hc]
      · simp [execOp, resolve, invoke, builtin, hxv, hyv, Builtin.max_, Builtin.max2, hc]
    · cases h
  · rename_i x y tys
    have hx := hρ x
    have hy := hρ y
    generalize hxv : ev x = xv at hx
    generalize hyv : ev y = yv at hy
    split at h
    · rename_i k m k' n he1 he2
      simp only [Option.some.injEq] at h; subst h
      rw [he1] at hx
      rw [he2] at hy
      cases hx; cases hy
      refine ⟨_, .int _ _, ?_⟩
      rw [ilt_eq]
      by_cases hc : n < m
      · simp [execOp, resolve, invoke, builtin, hxv, hyv, Builtin.min_, Builtin.min2, hc]
      · simp [execOp, resolve, invoke, builtin, hxv, hyv, Builtin.min_, Builtin.min2, hc]
    · cases h
  · rename_i x tys
    have hx := hρ x
    generalize hxv : ev x = xv at hx
    split at h
    · rename_i b off len lb sz he
      cases hb : Nat.beq lb 0 with
      | true => simp [hb] at h
      | false =>
        have h0 : lb ≠ 0 := fun e => by rw [beqn_iff.2 e] at hb; cases hb
        simp only [hb, cond_false, Option.some.injEq] at h; subst h
        rw [he] at hx
        cases hx with
        | sl _ _ _ _ _ r base size o cap hs q1 q2 q3 q4 =>
        have hc : ¬ cap = 0 := by omega
        exact ⟨_, .ptr _ _ r base size o hs (q3 h0), by simp [execOp, resolve, invoke, builtin, hxv, run_sliceData hc]⟩
    · rename_i he
      simp only [Option.some.injEq] at h; subst h
      rw [he] at hx
      cases hx
      exact ⟨_, .nilp, by simp [execOp, resolve, invoke, builtin, hxv, run_sliceData0]⟩
    · cases h
  · rename_i ty x lo hi mx
    split at h
    · rename_i e b off len lb sz l hh m hu he hl hh' hm
      split at h
      · rename_i inf hi0
        have hx := hρ x
        rw [he] at hx
        generalize hxv : ev x = xv at hx
        cases hx with
        | sl _ _ _ _ _ r base size o cap hs q1 q2 q3 q4 =>
        cases hc : (Nat.beq inf.size sz && (Nat.ble l hh && (Nat.ble hh m && Nat.ble m lb))) with
        | false => simp [hc] at h
        | true =>
          simp only [hc, cond_true, Option.some.injEq] at h; subst h
          simp only [Bool.and_eq_true] at hc
          have e0 := beqn_iff.1 hc.1
          have e1 := ble_iff.1 hc.2.1
          have e2 := ble_iff.1 hc.2.2.1
          have e3 := ble_iff.1 hc.2.2.2
          have hr := run_bounds3 (P := P) (w := w) (cap := cap) (lo := lo.map ρ) (lo' := lo.map ev) hl hh' hm e1 e2 (by omega : m ≤ cap) (len := len) (fun a v ha hv => by
            cases lo with
            | none => simp at ha
            | some z => simp only [Option.map_some, Option.some.injEq] at ha hv; subst ha; subst hv; exact hρ z) (by cases lo <;> rfl) (hρ hi) (hρ mx)
          refine ⟨.slice (some ⟨r, if m = l then o else o + l * sz, none⟩) (hh - l) (m - l), .sl _ _ _ _ _ r base size _ _ hs (by omega) (by omega) (fun hne => ?_) ?_, ?_⟩
          · rw [if_neg (by omega), q3 (by omega)]; omega
          · have hmc : m * sz ≤ cap * sz := Nat.mul_le_mul_right _ (by omega)
            split
            · rename_i hcl; subst hcl; simp; omega
            · have : l * sz + (m - l) * sz = m * sz := by rw [← Nat.add_mul]; congr 1; omega
              omega
          · have hs3 : (Instr.sliceAt ty (.slice (some ⟨r, o, none⟩) len cap) (lo.map ev) (some (ev hi)) (some (ev mx))).run P w = .ok (.slice (some ⟨r, if m = l then o else o + l * sz, none⟩) (hh - l) (m - l)) w := by
              simp only [Instr.sliceAt, Sem.run_bind, run_underlying' hu, Result.andThen_ok, Instr.slice, hr, run_sizeOf' hi0, Option.map_some, e0]
              rw [← addr_if]
              split <;> rfl
            simp only [execOp, hxv]
            exact run_v hs3
      · cases h
    · cases h
  · rename_i x xt t
    split at h
    · rename_i d t' v hu he
      have hx := hρ x
      rw [he] at hx
      generalize hxv : ev x = xv at hx
      cases hx with
      | ifc _ _ vv hv =>
      cases hc : (isItf d || !(Nat.beq t' t)) with
      | true => simp [hc] at h
      | false =>
        simp only [hc, cond_false, Option.some.injEq] at h; subst h
        simp only [Bool.or_eq_false_iff, Bool.not_eq_false'] at hc
        have e0 := beqn_iff.1 hc.2
        subst e0
        refine ⟨vv, hv, ?_⟩
        simp only [execOp, hxv]
        refine run_v ?_
        unfold Instr.typeAssert
        simp only [Sem.run_bind, run_underlying' hu, Result.andThen_ok]
        cases d <;> first | (simp [isItf] at hc; done) | simp
    · cases h
  · rename_i x ty
    have hx := hρ x
    generalize hxv : ev x = xv at hx
    split at h
    · rename_i e hu he
      simp only [Option.some.injEq] at h; subst h
      rw [he] at hx
      cases hx
      refine ⟨_, .int _ _, ?_⟩
      simp [execOp, resolve, invoke, builtin, hxv, Builtin.cap_, run_underlying' hu, goInt]
    · cases h
  · cases h

end
end I
end Go.Proofs.YtpaekplhcjleaaaGreatDoor
