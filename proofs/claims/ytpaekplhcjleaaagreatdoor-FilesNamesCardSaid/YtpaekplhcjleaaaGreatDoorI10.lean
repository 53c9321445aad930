import Derived.Test.YtpaekplhcjleaaaGreatDoorI9
namespace Go.Proofs.YtpaekplhcjleaaaGreatDoor
namespace I
open K (one aggB run_underlying' run_sizeOf' add_none run_v cell_cells)
set_option linter.unusedVariables false

/-! ### New memory -/

/-- What a new block is handed out as. -/
inductive NV where
  | ptr
  | sl (len lb sz : Nat)
  | map

def NV.at : NV → Nat → AV
  | .ptr, b => .ptr b 0
  | .sl len lb sz, b => .sl b 0 len lb sz
  | .map, b => .map b

/-- n cells of zeros of a type. -/
def zrep (P : Program) (e : TypeId) (n : Nat) : Option AV :=
  match rowA (zeroA P e) with
  | some (sz, s) => bif Nat.beq sz 0 then none else
    bif Nat.beq sz 1 then some (unid (lg n) s) else
    match s with
    | .uni v => some (unid (lg n) v)
    | s => some (cmk (fun i => cget (lg sz) s (i % sz)) (lg n) 0 n)
  | none => none

def anew (P : Program) (ρ : Operand → AV) (o : Oper) : Option (NV × AV) :=
  match o.op with
  | .alloc t => match rowA (zeroA P t) with
    | some (n, s) => some (.ptr, .cells (2 * t + 1) n false s)
    | none => none
  | .box t x => match rowA (ρ x) with
    | some (n, s) => some (.ptr, .cells (2 * t + 1) n false s)
    | none => none
  | .buildSlice t len ps => match P.underlying t with
    | some (.slice e) => match P.info? e with
      | some inf => bif Nat.beq len 0 && Nat.beq ps.size 0 then some (.sl 0 0 inf.size, .cells (2 * e + 1) 0 false .undef) else
        bif Nat.ble (len * inf.size) 16777216 && !(Nat.beq (len * inf.size) 0) then
          match zrep P e (len * inf.size) with
          | some z => match fillA (fun i => some (i * inf.size, inf.size)) (len * inf.size) (ps.toList.map fun p => (p.1, ρ p.2)) z with
            | some u => some (.sl len len inf.size, .cells (2 * e + 1) (len * inf.size) false u)
            | none => none
          | none => none
        else none
      | none => none
    | _ => none
  | .makeMap t none => some (.map, .mp .lnil)
  | .makeMap t (some x) => match P.underlying t, ρ x with
    | some (.map _ _), .int _ _ => some (.map, .mp .lnil)
    | _, _ => none
  | .makeSlice t l c => match P.underlying t, ρ l, ρ c with
    | some (.slice e), .int _ (.ofNat n), .int _ (.ofNat m) => match P.info? e with
      | some inf => bif Nat.beq n 0 && Nat.beq m 0 then some (.sl 0 0 inf.size, .cells (2 * e + 1) 0 false .undef) else
        bif Nat.ble n m && (Nat.ble (inf.bytes * m) 281474976710656 && (Nat.ble m 9223372036854775807 && !(Nat.beq (m * inf.size) 0))) then
          match zrep P e (m * inf.size) with
          | some z => some (.sl n m inf.size, .cells (2 * e + 1) (m * inf.size) false z)
          | none => none
        else none
      | none => none
    | _, _, _ => none
  | .convert src dst x => match P.underlying src, P.underlying dst, ρ x with
    | some _, some (.slice e), .str n s => match P.underlying e with
      | some (.int .u8) => some (.sl n n 1, .cells (2 * e) n false (strN n s))
      | _ => none
    | _, _, _ => none
  | _ => none

section
variable {P : Program} {σ : Sg} {h : AV} {nx : Nat} {w0 w : World} {B : Fr}

/-- The zero cells of a type, over and over. -/
theorem zrep_ok {e : TypeId} {n : Nat} {u : AV} (hz : zrep P e n = some u) (σ : Sg) : ∃ z, (P.info? e).bind (·.zero) = some z ∧ 0 < z.cells.size ∧
    ∀ cs : Array Value, cs.size = n → (∀ i, i < n → cs[i]? = some (z.cells[i % z.cells.size]!)) → RowRel σ n u cs := by
  unfold zrep at hz
  split at hz
  · rename_i sz s hr
    cases h0 : Nat.beq sz 0 with
    | true => simp [h0] at hz
    | false =>
      simp only [h0, cond_false] at hz
      have hsz0 : sz ≠ 0 := fun e => by rw [beqn_iff.2 e] at h0; cases h0
      have hbad : zeroA P e ≠ .bad := fun hb => by rw [hb] at hr; simp [rowA, scalarA] at hr
      obtain ⟨z, hzv, hzr⟩ := zeroA_ok (P := P) (t := e) rfl hbad σ
      have hrow := rowA_ok hzr hr
      refine ⟨z, hzv, by rw [hrow.1]; omega, fun cs hcs hget => ?_⟩
      have hcell : ∀ i, i < n → cget (lg n) u i = cget (lg sz) s (i % sz) := by
        intro i hi
        cases h1 : Nat.beq sz 1 with
        | true =>
          simp only [h1, cond_true, Option.some.injEq] at hz
          have := beqn_iff.1 h1
          subst this
          rw [← hz, cget_unid]; rfl
        | false =>
          simp only [h1, cond_false] at hz
          have hsz1 : sz ≠ 1 := fun e => by rw [beqn_iff.2 e] at h1; cases h1
          split at hz
          · rename_i v
            simp only [Option.some.injEq] at hz
            rw [← hz, cget_unid]
            obtain ⟨k, hk⟩ : ∃ k, lg sz = k + 1 := by
              unfold lg
              cases hb : Nat.ble sz 1 with
              | true => have := ble_iff.1 hb; omega
              | false => exact ⟨_, rfl⟩
            rw [hk]; rfl
          · simp only [Option.some.injEq] at hz
            rw [← hz, cget_cmk _ _ _ _ _ (lg_le n) hi, Nat.zero_add]
      have hval : ∀ i v, cs[i]? = some v → i < n ∧ z.cells[i % sz]? = some v := by
        intro i v hv
        have hi : i < n := by rw [← hcs]; exact (Array.getElem?_eq_some_iff.1 hv).1
        refine ⟨hi, ?_⟩
        have := hget i hi
        rw [hv] at this
        simp only [Option.some.injEq] at this
        have hlt : i % sz < z.cells.size := by rw [hrow.1]; exact Nat.mod_lt _ (by omega)
        rw [this, hrow.1, getElem!_pos z.cells (i % sz) hlt]
        exact Array.getElem?_eq_getElem hlt
      refine ⟨hcs, fun i v hv => hrow.2.1 _ v (hval i v hv).2, fun i v hv => ?_⟩
      obtain ⟨hi, hv⟩ := hval i v hv
      rw [hcell i hi]
      exact hrow.2.2 _ v hv
  · cases hz

theorem range0 : Array.range 0 = #[] := by simp [Array.range]

theorem odd_half (t : Nat) : (2 * t + 1) / 2 = t := by omega
theorem even_half (t : Nat) : 2 * t / 2 = t := by omega

theorem calm0 (n : Nat) : Calm (0, 0) n := fun i hi => by simp

/-- A row of its own, as a new block. -/
theorem HS.row (H : HS σ h nx w0 B w) (hnx : nx < 2 ^ HD) {ty n : Nat} {t : AV} {cs : Array Value} {fr : Nat × Nat} {w' : World} (hw : w'.heap = w.heap.push (.cells cs (ty / 2) fr)) (hex : ty % 2 = 1 → n = cs.size) (h1 : w'.os = w.os) (h2 : w'.tape = w.tape) (h3 : w'.output = w.output)
    (hn : n ≤ cs.size) (hfr : Calm fr cs.size) (hc : ∀ i, i < n → ∃ v, cs[i]? = some v ∧ one v = true ∧ Rel σ (cget (lg n) t i) v) :
    HS (ext σ nx (w.heap.size, 0, cs.size)) (cput HD h nx (.cells ty n false t)) (nx + 1) w0 B w' := by
  refine H.new hnx (p := (w.heap.size, 0, cs.size)) rfl hw h1 h2 h3 ⟨w.heap.size, 0, cs.size, cs, fr, ty / 2, by simp [ext], by rw [hw]; simp, rfl, ⟨rfl, by omega, hex⟩, fun i hi => ?_, fun _ => ⟨hfr, .inr H.size⟩, fun _ => rfl⟩
  obtain ⟨v, g1, g2, g3⟩ := hc i hi
  exact ⟨v, by rw [Nat.zero_add]; exact g1, g2, g3.mono (H.sub_ext _)⟩

theorem RowRel.all {n : Nat} {t : AV} {cs : Array Value} (hr : RowRel σ n t cs) : ∀ i, i < n → ∃ v, cs[i]? = some v ∧ one v = true ∧ Rel σ (cget (lg n) t i) v := fun i hi => by
  have hlt : i < cs.size := by rw [hr.1]; exact hi
  have hg : cs[i]? = some cs[i] := Array.getElem?_eq_getElem hlt
  exact ⟨_, hg, hr.2.1 i _ hg, hr.2.2 i _ hg⟩

/-- What comes of an operation that makes a block. -/
def NewOk (P : Program) (σ : Sg) (h : AV) (nx : Nat) (w0 : World) (B : Fr) (w : World) (s : Sem Next) (nv : NV) (x : AV) : Prop :=
  ∃ p v w', (s.run P w = .ok (.value v) w') ∧ Rel (ext σ nx p) (nv.at nx) v ∧ HS (ext σ nx p) (cput HD h nx x) (nx + 1) w0 B w'

/-- The same, whatever the block is called. -/
def NewCore (P : Program) (σ : Sg) (w0 : World) (B : Fr) (w : World) (s : Sem Next) (nv : NV) (x : AV) : Prop :=
  ∃ p v w' ob, s.run P w = .ok (.value v) w' ∧ w'.heap = w.heap.push ob ∧ w'.os = w.os ∧ w'.tape = w.tape ∧ w'.output = w.output ∧ p.1 = w.heap.size ∧ liveW x = true ∧
    ∀ b σ', Sub σ σ' → σ' b = some p → Rel σ' (nv.at b) v ∧ BlkRel σ' w0 B w' b x

theorem row_core (hsz : w0.heap.size ≤ w.heap.size) {ty n : Nat} {t : AV} {cs : Array Value} {fr : Nat × Nat} {w' : World} (hw : w'.heap = w.heap.push (.cells cs (ty / 2) fr)) (hex : ty % 2 = 1 → n = cs.size) (hn : n ≤ cs.size) (hfr : Calm fr cs.size)
    (hc : ∀ i, i < n → ∃ v, cs[i]? = some v ∧ one v = true ∧ Rel σ (cget (lg n) t i) v) {b : Nat} {σ' : Sg} (hs : Sub σ σ') (hb : σ' b = some (w.heap.size, 0, cs.size)) : BlkRel σ' w0 B w' b (.cells ty n false t) := by
  refine ⟨w.heap.size, 0, cs.size, cs, fr, ty / 2, hb, by rw [hw]; simp, rfl, ⟨rfl, by omega, hex⟩, fun i hi => ?_, fun _ => ⟨hfr, .inr hsz⟩, fun _ => rfl⟩
  obtain ⟨v, g1, g2, g3⟩ := hc i hi
  exact ⟨v, by rw [Nat.zero_add]; exact g1, g2, g3.mono hs⟩

theorem anew_core {ρ : Operand → AV} {ev : Operand → Value} {o : Oper} {nv : NV} {x : AV} (hsz : w0.heap.size ≤ w.heap.size) (hρ : ∀ x, Rel σ (ρ x) (ev x)) (ha : anew P ρ o = some (nv, x)) :
    NewCore P σ w0 B w (execOp ev o) nv x := by
  obtain ⟨dst, op, oty, pos, after, guard⟩ := o
  unfold anew at ha
  dsimp only at ha
  split at ha
  · rename_i t
    split at ha
    · rename_i n s hr
      simp only [Option.some.injEq, Prod.mk.injEq] at ha
      obtain ⟨rfl, rfl⟩ := ha
      have hbad : zeroA P t ≠ .bad := fun hb => by rw [hb] at hr; simp [rowA, scalarA] at hr
      obtain ⟨z, hzv, hzr⟩ := zeroA_ok (P := P) (t := t) rfl hbad σ
      have hrow := rowA_ok hzr hr
      refine ⟨(w.heap.size, 0, z.cells.size), _, w.alloc (.cells z.cells t (0, 0)), .cells z.cells t (0, 0), ?_, rfl, rfl, rfl, rfl, rfl, rfl, fun b σ' hs hb => ⟨.ptr _ _ w.heap.size 0 z.cells.size 0 hb rfl, row_core hsz (by rw [odd_half]; rfl) (fun _ => hrow.1.symm) (by rw [hrow.1]; exact Nat.le_refl _) (calm0 _) hrow.all hs hb⟩⟩
      simp [execOp, Instr.alloc, run_zeroValue hzv, newVar, newRow, newObj, Sem.run]
    · cases ha
  · rename_i t y
    split at ha
    · rename_i n s hr
      simp only [Option.some.injEq, Prod.mk.injEq] at ha
      obtain ⟨rfl, rfl⟩ := ha
      have hrow := rowA_ok (hρ y) hr
      refine ⟨(w.heap.size, 0, (ev y).cells.size), _, w.alloc (.cells (ev y).cells t (0, 0)), .cells (ev y).cells t (0, 0), ?_, rfl, rfl, rfl, rfl, rfl, rfl, fun b σ' hs hb => ⟨.ptr _ _ w.heap.size 0 (ev y).cells.size 0 hb rfl, row_core hsz (by rw [odd_half]; rfl) (fun _ => hrow.1.symm) (by rw [hrow.1]; exact Nat.le_refl _) (calm0 _) hrow.all hs hb⟩⟩
      simp [execOp, Instr.box, newVar, newRow, newObj, Sem.run]
    · cases ha
  · rename_i t len ps
    split at ha
    · rename_i e hu
      split at ha
      · rename_i inf hinf
        cases hz0 : (Nat.beq len 0 && Nat.beq ps.size 0) with
        | true =>
          simp only [hz0, cond_true, Option.some.injEq, Prod.mk.injEq] at ha
          obtain ⟨rfl, rfl⟩ := ha
          simp only [Bool.and_eq_true] at hz0
          have e1 := beqn_iff.1 hz0.1
          have e2 : ps = #[] := Array.eq_empty_of_size_eq_zero (beqn_iff.1 hz0.2)
          subst e1; subst e2
          refine ⟨(w.heap.size, 0, 0), _, w.alloc (.cells #[] e (0, 0)), .cells #[] e (0, 0), ?_, rfl, rfl, rfl, rfl, rfl, rfl, fun b σ' hs hb => ⟨.sl _ _ _ _ _ w.heap.size 0 0 0 0 hb (Nat.le_refl _) (Nat.le_refl _) (fun _ => rfl) (by simp), ⟨w.heap.size, 0, 0, #[], (0, 0), e, hb, K.get_alloc w _, rfl, ⟨rfl, Nat.le_refl _, fun _ => rfl⟩, fun i hi => absurd hi (Nat.not_lt_zero i), fun _ => ⟨calm0 _, .inr hsz⟩, fun _ => (odd_half e).symm⟩⟩⟩
          simp only [execOp]
          refine run_v ?_
          simp only [Instr.buildSlice, Sem.run_bind, run_underlying' hu, Result.andThen_ok, run_sizeOf' hinf, Nat.zero_mul]
          simp [newRow, newObj, Sem.run, Instr.fill, range0]
        | false =>
        simp only [hz0, cond_false] at ha
        cases hb : (Nat.ble (len * inf.size) 16777216 && !(Nat.beq (len * inf.size) 0)) with
        | false => simp [hb] at ha
        | true =>
          simp only [hb, cond_true] at ha
          simp only [Bool.and_eq_true, Bool.not_eq_true'] at hb
          have e1 := ble_iff.1 hb.1
          have e2 : len * inf.size ≠ 0 := fun e => by rw [beqn_iff.2 e] at hb; simp at hb
          split at ha
          · rename_i z hz
            split at ha
            · rename_i u hf
              simp only [Option.some.injEq, Prod.mk.injEq] at ha
              obtain ⟨rfl, rfl⟩ := ha
              obtain ⟨zv, hzv, hz0, hzr⟩ := zrep_ok hz σ
              obtain ⟨q1, q2⟩ := parts_rel hρ ps
              have hrow := hzr ((Array.range (len * inf.size)).map (zv.cells[· % zv.cells.size]!)) (by simp) (fun i hi => by simp [hi])
              obtain ⟨cs, h6, h7⟩ := fillA_ok q1 q2 hrow hf
              refine ⟨(w.heap.size, 0, cs.size), _, w.alloc (.cells cs e (0, 0)), .cells cs e (0, 0), ?_, rfl, rfl, rfl, rfl, rfl, rfl, fun b σ' hs hb => ⟨.sl _ _ _ _ _ w.heap.size 0 cs.size 0 len hb (Nat.le_refl _) (Nat.le_refl _) (fun _ => rfl) (by rw [h7.1]; omega), row_core hsz (by rw [odd_half]; rfl) (fun _ => h7.1.symm) (by rw [h7.1]; exact Nat.le_refl _) (calm0 _) h7.all hs hb⟩⟩
              have e3 : ¬ (len * inf.size > 2 ^ 24) := by omega
              simp only [execOp]
              refine run_v ?_
              simp only [Instr.buildSlice, Sem.run_bind, run_underlying' hu, Result.andThen_ok, run_sizeOf' hinf, e3, if_false, e2, run_zeroValue hzv, Sem.run_pure, h6]
              simp [newRow, newObj, Sem.run]
            · cases ha
          · cases ha
      · cases ha
    · cases ha
  · rename_i t
    simp only [Option.some.injEq, Prod.mk.injEq] at ha
    obtain ⟨rfl, rfl⟩ := ha
    refine ⟨(w.heap.size, 0, 0), _, w.alloc (.map #[] 0), .map #[] 0, ?_, rfl, rfl, rfl, rfl, rfl, rfl, fun b σ' hs hb => ⟨.map _ w.heap.size 0 0 hb, ⟨w.heap.size, 0, 0, #[], 0, hb, K.get_alloc w _, ⟨trivial, Go.MapKept.stamped_empty 0⟩, .inr hsz⟩⟩⟩
    simp [execOp, Instr.makeMap, newObj, Sem.run]
  · rename_i t y
    split at ha
    · rename_i k e kk m hu he
      simp only [Option.some.injEq, Prod.mk.injEq] at ha
      obtain ⟨rfl, rfl⟩ := ha
      have hy := hρ y
      rw [he] at hy
      generalize hyv : ev y = yv at hy
      cases hy
      refine ⟨(w.heap.size, 0, 0), _, w.alloc (.map #[] 0), .map #[] 0, ?_, rfl, rfl, rfl, rfl, rfl, rfl, fun b σ' hs hb => ⟨.map _ w.heap.size 0 0 hb, ⟨w.heap.size, 0, 0, #[], 0, hb, K.get_alloc w _, ⟨trivial, Go.MapKept.stamped_empty 0⟩, .inr hsz⟩⟩⟩
      simp [execOp, Instr.makeMap, newObj, Sem.run, hyv, run_underlying' hu, asInt, asIntOf]
    · cases ha
  · rename_i t l c
    split at ha
    · rename_i e k1 n k2 m hu he1 he2
      split at ha
      · rename_i inf hinf
        cases hz0 : (Nat.beq n 0 && Nat.beq m 0) with
        | true =>
          simp only [hz0, cond_true, Option.some.injEq, Prod.mk.injEq] at ha
          obtain ⟨rfl, rfl⟩ := ha
          simp only [Bool.and_eq_true] at hz0
          have e1 := beqn_iff.1 hz0.1
          have e2 := beqn_iff.1 hz0.2
          subst e1; subst e2
          have hl := hρ l
          have hc := hρ c
          rw [he1] at hl
          rw [he2] at hc
          generalize hlv : ev l = lv at hl
          generalize hcv : ev c = cv at hc
          cases hl; cases hc
          refine ⟨(w.heap.size, 0, 0), .slice (some ⟨w.heap.size, 0, none⟩) 0 0, w.alloc (.cells #[] e (0, 0)), .cells #[] e (0, 0), ?_, rfl, rfl, rfl, rfl, rfl, rfl, fun b σ' hs hb => ⟨.sl _ _ _ _ _ w.heap.size 0 0 0 0 hb (Nat.le_refl _) (Nat.le_refl _) (fun _ => rfl) (by simp), ⟨w.heap.size, 0, 0, #[], (0, 0), e, hb, K.get_alloc w _, rfl, ⟨rfl, Nat.le_refl _, fun _ => rfl⟩, fun i hi => absurd hi (Nat.not_lt_zero i), fun _ => ⟨calm0 _, .inr hsz⟩, fun _ => (odd_half e).symm⟩⟩⟩
          have w1 : IntKind.i64.wrap (Int.ofNat 0) = Int.ofNat 0 := K.wrap_in (by simp [K.lo, K.hi])
          have c1 : ¬ ((Int.ofNat 0 : Int) < 0) := by simp
          have c2 : ¬ ((inf.bytes : Int) * (Int.ofNat 0 : Int) > 2 ^ 48) := by simp
          have c4 : ¬ ((Int.ofNat 0 : Int) > Int.ofNat 0) := by simp
          have hti : (typeInfo e).run P w = .ok inf w := by simp [typeInfo, program, Sem.run, hinf]
          have har : (askRoom ((Int.ofNat 0).toNat * inf.bytes)).run P w = .ok () w := by
            unfold askRoom
            split <;> rfl
          simp only [execOp]
          refine run_v ?_
          simp only [Instr.makeSlice, Sem.run_bind, run_underlying' hu, Result.andThen_ok, hlv, hcv, asInt, asIntOf, Sem.run_pure, hti, w1, c1, c2, c4, decide_false, Bool.or_self, Bool.false_eq_true, if_false, har, run_sizeOf' hinf]
          rw [show (Int.ofNat 0).toNat = 0 from rfl]
          simp only [Nat.zero_mul, if_true, Sem.run_bind, Result.andThen_ok, Sem.run_pure]
          simp [newRow, newObj, Sem.run, range0]
        | false =>
        simp only [hz0, cond_false] at ha
        cases hb : (Nat.ble n m && (Nat.ble (inf.bytes * m) 281474976710656 && (Nat.ble m 9223372036854775807 && !(Nat.beq (m * inf.size) 0)))) with
        | false => simp [hb] at ha
        | true =>
          simp only [hb, cond_true] at ha
          simp only [Bool.and_eq_true, Bool.not_eq_true'] at hb
          have e1 := ble_iff.1 hb.1
          have e2 := ble_iff.1 hb.2.1
          have e4 := ble_iff.1 hb.2.2.1
          have e3 : m * inf.size ≠ 0 := fun e => by rw [beqn_iff.2 e] at hb; simp at hb
          split at ha
          · rename_i z hz
            simp only [Option.some.injEq, Prod.mk.injEq] at ha
            obtain ⟨rfl, rfl⟩ := ha
            have hl := hρ l
            have hc := hρ c
            rw [he1] at hl
            rw [he2] at hc
            generalize hlv : ev l = lv at hl
            generalize hcv : ev c = cv at hc
            cases hl; cases hc
            obtain ⟨zv, hzv, hz0, hzr⟩ := zrep_ok hz σ
            have hrow := hzr ((Array.range (m * inf.size)).map (zv.cells[· % zv.cells.size]!)) (by simp) (fun i hi => by simp [hi])
            generalize hcs : (Array.range (m * inf.size)).map (zv.cells[· % zv.cells.size]!) = cs at hrow
            refine ⟨(w.heap.size, 0, cs.size), .slice (some ⟨w.heap.size, 0, none⟩) n m, w.alloc (.cells cs e (0, 0)), .cells cs e (0, 0), ?_, rfl, rfl, rfl, rfl, rfl, rfl, fun b σ' hs hb => ⟨.sl _ _ _ _ _ w.heap.size 0 cs.size 0 m hb e1 (Nat.le_refl _) (fun _ => rfl) (by rw [hrow.1]; omega), row_core hsz (by rw [odd_half]; rfl) (fun _ => hrow.1.symm) (by rw [hrow.1]; exact Nat.le_refl _) (calm0 _) hrow.all hs hb⟩⟩
            have w1 : IntKind.i64.wrap (Int.ofNat n) = Int.ofNat n := K.wrap_in (by simp [K.lo, K.hi]; omega)
            have w2 : IntKind.i64.wrap (Int.ofNat m) = Int.ofNat m := K.wrap_in (by simp [K.lo, K.hi]; omega)
            have c1 : ¬ ((Int.ofNat m : Int) < 0) := by simp
            have c2 : ¬ ((inf.bytes : Int) * (Int.ofNat m : Int) > 2 ^ 48) := by
              have : ((inf.bytes * m : Nat) : Int) ≤ 281474976710656 := by omega
              simp only [Int.natCast_mul] at this
              simp only [Int.ofNat_eq_natCast]; omega
            have c3 : ¬ ((Int.ofNat n : Int) < 0) := by simp
            have c4 : ¬ ((Int.ofNat n : Int) > Int.ofNat m) := by simp; omega
            have hti : (typeInfo e).run P w = .ok inf w := by simp [typeInfo, program, Sem.run, hinf]
            have har : (askRoom ((Int.ofNat m).toNat * inf.bytes)).run P w = .ok () w := by
              unfold askRoom
              split <;> rfl
            simp only [execOp]
            refine run_v ?_
            simp only [Instr.makeSlice, Sem.run_bind, run_underlying' hu, Result.andThen_ok, hlv, hcv, asInt, asIntOf, Sem.run_pure, hti, w1, w2, c1, c2, c3, c4, decide_false, Bool.or_self, Bool.false_eq_true, if_false, har, run_sizeOf' hinf]
            rw [show (Int.ofNat m).toNat = m from rfl, show (Int.ofNat n).toNat = n from rfl]
            simp only [e3, if_false, Sem.run_bind, run_zeroValue hzv, Result.andThen_ok, Sem.run_pure, hcs]
            simp [newRow, newObj, Sem.run]
          · cases ha
      · cases ha
    · cases ha
  · rename_i src dst y
    split at ha
    · rename_i d0 e n s hu1 hu2 he
      split at ha
      · rename_i hue
        simp only [Option.some.injEq, Prod.mk.injEq] at ha
        obtain ⟨rfl, rfl⟩ := ha
        have hy := hρ y
        rw [he] at hy
        generalize hyv : ev y = yv at hy
        cases hy with
        | str t _ _ hn hs =>
        subst hn; subst hs
        let cap := (Question.appendCap t.size 0 e).cut (w.tape w.drawn (.appendCap t.size 0 e))
        have hcap : t.size ≤ cap := Nat.le_add_right _ _
        let cs : Array Value := (t.data.map fun b => Value.int .u8 b.toNat) ++ Array.replicate (cap - t.size) (.int .u8 0)
        have hcs : cs.size = cap := by simp [cs]; show t.size + (cap - t.size) = cap; omega
        let w1 : World := { w with drawn := w.drawn + 1 }
        let w2 : World := (w1.alloc (.cells cs e (0, 0))).freeze ⟨w.heap.size, cap, none⟩ 1
        have hw2 : w2.heap = w1.heap.push (.cells cs e (cap, cap + 1)) := by
          simp only [w2, World.freeze, World.alloc, Nat.one_ne_zero, if_false]
          apply Array.ext_getElem?
          intro k
          simp only [Array.getElem?_modify]
          by_cases hk : w.heap.size = k
          · subst hk; simp [w1]
          · simp only [hk, if_false]
            simp only [Array.getElem?_push, w1]
            rw [if_neg (fun h => hk h.symm), if_neg (fun h => hk h.symm)]
        have hget : ∀ i, i < t.size → cs[i]? = some (.int .u8 (Int.ofNat (sbyte t.size (val t.data.toList) i))) := fun i hi => by
          have hl : i < t.data.toList.length := by simpa using hi
          have hg := val_get hl
          have hlen : t.data.toList.length = t.size := by simp
          rw [hlen] at hg
          have hi' : i < t.data.size := hi
          simp only [cs]
          rw [Array.getElem?_append_left (by simpa using hi')]
          simp only [Array.getElem?_map, Array.getElem?_eq_getElem hi', Option.map_some, ← hg]
          simp
        refine ⟨(w.heap.size, 0, cs.size), .slice (some ⟨w.heap.size, 0, none⟩) t.size cap, w2, .cells cs e (cap, cap + 1), ?_, hw2, rfl, rfl, rfl, rfl, rfl, fun b σ' hs hb => ⟨.sl _ _ _ _ _ w.heap.size 0 cs.size 0 cap hb (Nat.le_refl _) hcap (fun _ => rfl) (by rw [hcs]; omega), ?_⟩⟩
        · have hstb : (Conv.stringToBytes e t).run P w = .ok (.slice (some ⟨w.heap.size, 0, none⟩) t.size cap) w2 := by
            have hsh : (w1.alloc (.cells cs e (0, 0))).shape? w.heap.size = some (e, cap) := by
              simp [World.shape?, World.alloc, w1, hcs]
            have hsh' : World.shape? { w1 with heap := w1.heap.push (.cells cs e (0, 0)) } w.heap.size = some (e, cap) := hsh
            unfold Conv.stringToBytes
            simp only [Sem.run_bind]
            show _ = Result.ok (Value.slice (some ⟨w.heap.size, 0, none⟩) t.size cap) w2
            simp only [choose, Sem.run, Question.forced, Bool.false_eq_true, if_false, Result.andThen_ok, newRow, newObj, Sem.run_bind, Sem.run_pure]
            simp only [markStringish, shape, Sem.run_bind, Sem.run]
            have hh : World.shape? { heap := w.heap.push (.cells ((t.data.map fun b => Value.int .u8 b.toNat) ++ Array.replicate ((Question.appendCap t.size 0 e).cut (w.tape w.drawn (.appendCap t.size 0 e)) - t.size) (.int .u8 0)) e), tape := w.tape, drawn := w.drawn + 1, os := w.os, output := w.output } w.heap.size = some (e, cap) := hsh'
            rw [hh]
            rfl
          simp only [execOp]
          refine run_v ?_
          simp only [convert, Sem.run_bind, run_underlying' hu1, run_underlying' hu2, Result.andThen_ok, hyv, run_underlying' hue, hstb]
        · exact row_core (w := w1) hsz (by rw [even_half]; exact hw2) (fun h => by omega) (by rw [hcs]; exact hcap) (fun i hi => by
            rw [hcs] at hi
            simp; omega) (fun i hi => ⟨_, hget i hi, rfl, by rw [cget_strN hi]; exact .int _ _⟩) hs hb
      · cases ha
    · cases ha
  · cases ha

theorem anew_ok {ρ : Operand → AV} {ev : Operand → Value} {o : Oper} {nv : NV} {x : AV} (H : HS σ h nx w0 B w) (hnx : nx < 2 ^ HD) (hρ : ∀ x, Rel σ (ρ x) (ev x)) (ha : anew P ρ o = some (nv, x)) :
    NewOk P σ h nx w0 B w (execOp ev o) nv x := by
  obtain ⟨p, v, w', ob, h1, h2, h3, h4, h5, h6, _, h7⟩ := anew_core (P := P) (w0 := w0) (B := B) H.size hρ ha
  obtain ⟨h8, h9⟩ := h7 nx (ext σ nx p) (H.sub_ext p) (by simp [ext])
  exact ⟨p, v, w', h1, h8, H.new hnx h6 h2 h3 h4 h5 h9⟩

end
end I
end Go.Proofs.YtpaekplhcjleaaaGreatDoor
