import Derived.Test.YtpaekplhcjleaaaGreatDoorIM
import Derived.Lib.Builder
namespace Go.Proofs.YtpaekplhcjleaaaGreatDoor
namespace I
open K (one aggB run_underlying' run_sizeOf' add_none run_v cell_cells)
set_option linter.unusedVariables false

def lengthA : AV → Nat
  | .lcons _ l => lengthA l + 1
  | _ => 0

/-- What a map holds for a key. -/
def lookM (h x k : AV) : Option (Option (Nat × AV)) :=
  match x with
  | .nilm => some none
  | .map b => match cget HD h b with
    | .mp l => findI k l 0
    | _ => none
  | _ => none

def okA (ok : Bool) (v : AV) (b : Bool) : AV := bif ok then .tup (.lcons v (.lcons (.bool b) .lnil)) else v

/-! ### Operations that look at memory -/
def aread (P : Program) (ρ : Operand → AV) (h : AV) (o : Oper) : Option AV :=
  match o.op with
  | .load ty x => match ρ x with
    | .ptr b off => match cget HD h b with
      | .cells _ n _ t => apartA P ty n t off
      | _ => none
    | _ => none
  | .convert src dst x => match P.underlying src, P.underlying dst, ρ x with
    | some (.slice e), some .string, .sl b off len lb _ => match P.underlying e, cget HD h b with
      | some (.int .u8), .cells _ n _ t => bif Nat.ble (off + len) n && !(Nat.beq lb 0) then
          match bytesOf (lg n) t len off 0 with
          | some x => some (.str len x)
          | none => none
        else none
      | _, _ => none
    | some (.slice e), some .string, .nils => match P.underlying e with
      | some (.int .u8) => some (.str 0 0)
      | _ => none
    | some (.pointer t), some .unsafePointer, .ptr b off => match P.info? t, cget HD h b with
      | some inf, .cells _ n _ _ => bif !(Nat.beq inf.size 0) && Nat.blt off n then some (.ptr b off) else none
      | _, _ => none
    | some .unsafePointer, some (.pointer u), .ptr b off => match P.info? u, cget HD h b with
      | some inf, .cells ty n _ _ => bif Nat.beq (ty % 2) 1 && liesAt P P.depth (ty / 2) (n / P.cellsOf (ty / 2)) off u 1 then some (.ptr b off) else none
      | _, _ => none
    | _, _, _ => none
  | .slice ty x lo hi none => match ρ x, P.underlying ty with
    | .ptr b off, some (.array m e) => match cget HD h b, P.info? e with
      | .cells _ n _ _, some inf => bif Nat.ble (off + m * inf.size) n then asliceA P ty (.ptr b off) (lo.map ρ) (hi.map ρ) else none
      | _, _ => none
    | _, _ => none
  | .call ⟨.builtin .len, ⟨[x]⟩, ⟨[ty]⟩⟩ => match P.underlying ty, ρ x with
    | some (.map _ _), .map b => match cget HD h b with
      | .mp l => some (.int .i64 (.ofNat (lengthA l)))
      | _ => none
    | _, _ => none
  | .lookup t x k ok => match P.underlying t with
    | some (.map kt e) => match P.underlying kt with
      | some kd => bif fitKey kd (ρ k) then
          match lookM h (ρ x) (ρ k) with
          | some (some (_, v)) => some (okA ok v true)
          | some none => match zeroA P e with
            | .bad => none
            | z => some (okA ok z false)
          | none => none
        else none
      | none => none
    | _ => none
  | _ => none

section
variable {P : Program} {σ : Sg} {h : AV} {nx : Nat} {w0 w : World} {B : Fr}

theorem EsRel.length : ∀ {l : AV} {es : List MapEntry}, EsRel σ l es → lengthA l = es.length
  | .lcons (.lcons _ _) l, e :: es, h => by simp [lengthA, EsRel.length h.2.2]
  | .lnil, [], _ => rfl
  | .lnil, _ :: _, h => h.elim
  | .lcons (.lcons _ _) _, [], h => h.elim

theorem load_cells {r o n : Nat} {cs : Array Value} {ty : TypeId} {fr : Nat × Nat} (hb : w.heap[r]? = some (.cells cs ty fr)) (hn : o + n ≤ cs.size) : (loadCells ⟨r, o, none⟩ n).run P w = .ok (cs.extract o (o + n)) w := by
  have := K.run_loadCells (P := P) (w := w) (b := r) (off := o) (n := n) (fun j => cs.getD (o + j) undef) (fun j hj => by
    rw [cell_cells hb, Array.getD_eq_getD_getElem?, Array.getElem?_eq_getElem (by omega)]; rfl)
  rw [this]
  congr 1
  apply Array.ext_getElem?
  intro i
  rw [Array.getElem?_extract]
  by_cases hi : i < n
  · rw [if_pos (by omega)]
    simp [hi, Array.getD_eq_getD_getElem?]
    rw [Array.getElem?_eq_getElem (by omega)]; rfl
  · rw [if_neg (by omega)]
    simp [hi]

theorem run_loadVar {r o : Nat} {cs : Array Value} {ty ty' : TypeId} {fr : Nat × Nat} {n base : Nat} {t a : AV} (hb : w.heap[r]? = some (.cells cs ty' fr)) (hbn : base + n ≤ cs.size)
    (hc : ∀ i, i < n → ∃ v, cs[base + i]? = some v ∧ one v = true ∧ Rel σ (cget (lg n) t i) v) {off : Nat} (ho : o = base + off) (ha : apartA P ty n t off = some a) : ∃ v, Rel σ a v ∧ (loadVar ty ⟨r, o, none⟩).run P w = .ok v w := by
  have hrow : RowRel σ n t (cs.extract base (base + n)) := by
    have hsz : (cs.extract base (base + n)).size = n := by simp; omega
    have hg : ∀ (i : Nat) v, (cs.extract base (base + n))[i]? = some v → i < n ∧ cs[base + i]? = some v := fun i v hv => by
      have hi : i < n := by rw [← hsz]; exact (Array.getElem?_eq_some_iff.1 hv).1
      refine ⟨hi, ?_⟩
      rw [Array.getElem?_extract] at hv
      split at hv
      · exact hv
      · cases hv
    refine ⟨hsz, fun i v hv => ?_, fun i v hv => ?_⟩
    · obtain ⟨hi, hv⟩ := hg i v hv
      obtain ⟨u, h1, h2, h3⟩ := hc i hi
      rw [hv] at h1; simp only [Option.some.injEq] at h1; rw [h1]; exact h2
    · obtain ⟨hi, hv⟩ := hg i v hv
      obtain ⟨u, h1, h2, h3⟩ := hc i hi
      rw [hv] at h1; simp only [Option.some.injEq] at h1; rw [h1]; exact h3
  obtain ⟨v, h1, h2⟩ := apartA_ok (P := P) (w := w) hrow ha
  refine ⟨v, h1, ?_⟩
  rw [← h2]
  unfold apartA at ha
  split at ha
  · rename_i d inf hu hi
    cases hd : isA d with
    | true =>
      simp only [hd, cond_true] at ha
      cases hb' : Nat.ble (off + inf.size) n with
      | false => simp [hb'] at ha
      | true =>
        have e := ble_iff.1 hb'
        have e2 : (cs.extract base (base + n)).extract off (off + inf.size) = cs.extract o (o + inf.size) := by
          apply Array.ext_getElem?
          intro i
          simp only [Array.getElem?_extract, Array.size_extract]
          by_cases hi' : i < inf.size
          · rw [if_pos (by omega), if_pos (by omega), if_pos (by omega)]; congr 1; omega
          · rw [if_neg (by omega), if_neg (by omega)]
        simp only [loadVar, part, Sem.run_bind, run_isA hu, hd, Result.andThen_ok, if_true, run_sizeOf' hi, load_cells hb (show o + inf.size ≤ cs.size by omega), Sem.run_pure, e2]
    | false =>
      simp only [hd, cond_false] at ha
      cases hb' : Nat.blt off n with
      | false => simp [hb'] at ha
      | true =>
        have e := blt_iff.1 hb'
        obtain ⟨u, g1, g2, g3⟩ := hc off e
        have g4 : (cs.extract base (base + n))[off]? = some u := by rw [Array.getElem?_extract, if_pos (by omega)]; exact g1
        simp only [loadVar, part, Sem.run_bind, run_isA hu, hd, Result.andThen_ok, Bool.false_eq_true, if_false, g4, Sem.run_pure]
        have g5 : w.cell? ⟨r, o, none⟩ = some u := by rw [cell_cells hb, ho]; exact g1
        simp [load, Sem.run, g5]
  · cases ha

theorem okA_ok {ok b : Bool} {v : AV} {u : Value} (hv : Rel σ v u) : Rel σ (okA ok v b) (if ok = true then .tuple #[u, .bool b] else u) := by
  cases ok with
  | false => exact hv
  | true =>
    refine .tup _ _ rfl (fun i a x ha hx => ?_)
    match i with
    | 0 => simp [toList] at ha hx; subst ha; subst hx; exact hv
    | 1 => simp [toList] at ha hx; subst ha; subst hx; exact .bool _
    | i + 2 => simp [toList] at ha

theorem lookM_ok (H : HS σ h nx w0 B w) {x k : AV} {xv kv : Value} {kd : TypeDesc} {r : Option (Nat × AV)} (hx : Rel σ x xv) (hk : Rel σ k kv) (hf : fitKey kd k = true) (hl : lookM h x k = some r) :
    ∃ es : Array MapEntry, ((xv = .map none ∧ es = #[]) ∨ ∃ q clock, xv = .map (some q) ∧ w.heap[q]? = some (.map es clock)) ∧
      ((r = none ∧ Instr.findNow kd kv es.toList 0 = some none) ∨ ∃ j v u, r = some (j, v) ∧ Instr.findNow kd kv es.toList 0 = some (some (j, u)) ∧ Rel σ v u) := by
  unfold lookM at hl
  split at hl
  · cases hx
    simp only [Option.some.injEq] at hl
    exact ⟨#[], .inl ⟨rfl, rfl⟩, .inl ⟨hl.symm, rfl⟩⟩
  · rename_i b
    cases hx with
    | map _ r' base size hs =>
    split at hl
    · rename_i l hc
      have := H.blk b (H.lt hs)
      rw [hc] at this
      obtain ⟨r1, base1, size1, es, clock, h1, h2, h3, h4⟩ := this
      rw [hs] at h1
      simp only [Option.some.injEq, Prod.mk.injEq] at h1
      obtain ⟨rfl, rfl, rfl⟩ := h1
      refine ⟨es, .inr ⟨_, clock, rfl, h2⟩, ?_⟩
      rcases findI_ok hk hf h3.1 hl with ⟨a, b⟩ | ⟨j, v, u, a, b, c, d, _⟩
      · exact .inl ⟨a, b⟩
      · exact .inr ⟨j, v, u, a, b, c⟩
    · cases hl
  · cases hl

theorem aread_ok {ρ : Operand → AV} {ev : Operand → Value} {o : Oper} {a : AV} (H : HS σ h nx w0 B w) (hρ : ∀ x, Rel σ (ρ x) (ev x)) (ha : aread P ρ h o = some a) :
    ∃ v, Rel σ a v ∧ (execOp ev o).run P w = .ok (.value v) w := by
  obtain ⟨dst, op, oty, pos, after, guard⟩ := o
  unfold aread at ha
  dsimp only at ha
  split at ha
  · rename_i ty x
    split at ha
    · rename_i b off he
      have hx := hρ x
      rw [he] at hx
      generalize hxv : ev x = xv at hx
      cases hx with
      | ptr _ _ r base size o hs ho =>
      split at ha
      · rename_i ety n ro t hc
        obtain ⟨cs, fr, tt, h1, h2, h3, h4, h5⟩ := H.cells hs hc
        obtain ⟨v, h6, h7⟩ := run_loadVar (P := P) (σ := σ) h1 (by omega) h4 ho ha
        exact ⟨v, h6, by simp [execOp, hxv, Instr.loadAt, Instr.sureAddr, h7]⟩
      · cases ha
    · cases ha
  · rename_i src dst x
    have hx := hρ x
    generalize hxv : ev x = xv at hx
    split at ha
    · rename_i e b off len lb sz hu1 hu2 he
      rw [he] at hx
      cases hx with
      | sl _ _ _ _ _ r base size o cap hs q1 q2 q3 q4 =>
      split at ha
      · rename_i ety n ro t hue hc
        cases hb : (Nat.ble (off + len) n && !(Nat.beq lb 0)) with
        | false => simp [hb] at ha
        | true =>
          simp only [hb, cond_true] at ha
          simp only [Bool.and_eq_true, Bool.not_eq_true'] at hb
          have e1 := ble_iff.1 hb.1
          have e2 : lb ≠ 0 := fun e => by rw [beqn_iff.2 e] at hb; simp at hb
          have e3 := q3 e2
          split at ha
          · rename_i y hy
            simp only [Option.some.injEq] at ha; subst ha
            obtain ⟨cs, fr, tt, h1, h2, h3, h4, h5⟩ := H.cells hs hc
            obtain ⟨l, g1, g2, g3⟩ := bytesOf_ok (cs := cs) (base := base) (σ := σ) hy (fun j hj hj' => by
              obtain ⟨v, f1, f2, f3⟩ := h4 j (by omega)
              exact ⟨v, f1, f3⟩)
            refine ⟨.string ⟨l.toArray⟩, .str _ _ _ (by show len = l.toArray.size; simp [g1]) (by simpa [val] using g2), ?_⟩
            have hstr := K.bytes_str (P := P) (w := w) (b := r) (off := o) (c := cap) g1 (fun j hj => by
              rw [cell_cells h1, e3, Nat.add_assoc]; exact g3 j hj)
            simp [execOp, hxv, run_convert_bytes_string w src dst e (some ⟨r, o, none⟩) len cap hu1 hue hu2, hstr]
          · cases ha
      · cases ha
    · rename_i e hu1 hu2 he
      rw [he] at hx
      cases hx
      split at ha
      · rename_i hue
        simp only [Option.some.injEq] at ha; subst ha
        refine ⟨.string .empty, .str _ _ _ rfl rfl, ?_⟩
        have : (Conv.bytesToString (.slice none 0 0)).run P w = .ok (.string .empty) w := rfl
        simp [execOp, hxv, run_convert_bytes_string w src dst e none 0 0 hu1 hue hu2, this]
      · cases ha
    · rename_i t b off hu1 hu2 he
      rw [he] at hx
      cases hx with
      | ptr _ _ r base size o hs ho =>
      split at ha
      · rename_i inf ety n ro t' hinf hc
        cases hb : (!(Nat.beq inf.size 0) && Nat.blt off n) with
        | false => simp [hb] at ha
        | true =>
          simp only [hb, cond_true, Option.some.injEq] at ha; subst ha
          simp only [Bool.and_eq_true, Bool.not_eq_true'] at hb
          have e1 : inf.size ≠ 0 := fun e => by rw [beqn_iff.2 e] at hb; simp at hb
          have e2 := blt_iff.1 hb.2
          obtain ⟨cs, fr, tt, h1, h2, h3, h4, h5⟩ := H.cells hs hc
          have hsh : w.shape? r = some (tt, size) := by simp [World.shape?, h1, h2]
          have hr := Lib.run_to_unsafe (P := P) w ⟨r, o, none⟩ hu1 hu2 hinf e1 hsh (by show o < size; omega)
          exact ⟨_, .ptr _ _ r base size o hs ho, by simp [execOp, hxv, hr]⟩
      · cases ha
    · rename_i u b off hu1 hu2 he
      rw [he] at hx
      cases hx with
      | ptr _ _ r base size o hs ho =>
      split at ha
      · rename_i inf ety n ro t' hinf hc
        cases hb : (Nat.beq (ety % 2) 1 && liesAt P P.depth (ety / 2) (n / P.cellsOf (ety / 2)) off u 1) with
        | false => simp [hb] at ha
        | true =>
          simp only [hb, cond_true, Option.some.injEq] at ha; subst ha
          simp only [Bool.and_eq_true] at hb
          have e1 := beqn_iff.1 hb.1
          obtain ⟨cs, fr, h1, h2, h3, h4, h5⟩ := H.cellsT hs hc (.inr e1)
          have hsh : w.shape? r = some (ety / 2, size) := by simp [World.shape?, h1, h2]
          have e2 : size = n := (h3.2.2 e1).symm
          have e3 : o = off := by omega
          have hr := Lib.run_from_unsafe (P := P) w ⟨r, o, none⟩ hu1 hu2 hinf hsh (by show liesAt P P.depth (ety / 2) (size / P.cellsOf (ety / 2)) o u 1 = true; rw [e2, e3]; exact hb.2)
          exact ⟨_, .ptr _ _ r base size o hs ho, by simp [execOp, hxv, hr]⟩
      · cases ha
    · cases ha
  · rename_i ty x lo hi
    split at ha
    · rename_i b off m e he hu
      have hx := hρ x
      rw [he] at hx
      split at ha
      · rename_i ety n ro t inf hc hinf
        cases hb : Nat.ble (off + m * inf.size) n with
        | false => simp [hb] at ha
        | true =>
          simp only [hb, cond_true] at ha
          have e1 := ble_iff.1 hb
          obtain ⟨v, h1, h2⟩ := asliceA_ok (P := P) (w := w) (lo' := lo.map ev) (hi' := hi.map ev) ha hx (fun a v ha hv => by
            cases lo with
            | none => cases ha
            | some y => simp only [Option.map_some, Option.some.injEq] at ha hv; subst ha; subst hv; exact hρ y) (fun a v ha hv => by
            cases hi with
            | none => cases ha
            | some y => simp only [Option.map_some, Option.some.injEq] at ha hv; subst ha; subst hv; exact hρ y) (by cases lo <;> rfl) (by cases hi <;> rfl)
            (fun b' off' n' e' hbo hu' inf' hinf' r base size hs => by
              simp only [AV.ptr.injEq] at hbo
              obtain ⟨rfl, rfl⟩ := hbo
              rw [hu] at hu'
              simp only [Option.some.injEq, TypeDesc.array.injEq] at hu'
              obtain ⟨rfl, rfl⟩ := hu'
              rw [hinf] at hinf'
              simp only [Option.some.injEq] at hinf'
              subst hinf'
              obtain ⟨cs, fr, tt, h1, h2, h3, h4, h5⟩ := H.cells hs hc
              omega)
          refine ⟨v, h1, ?_⟩
          simp only [execOp, Option.map_none]
          exact run_v h2
      · cases ha
    · cases ha
  · rename_i x ty
    split at ha
    · rename_i k e b hu he
      have hx := hρ x
      rw [he] at hx
      generalize hxv : ev x = xv at hx
      cases hx with
      | map _ r base size hs =>
      split at ha
      · rename_i l hc
        simp only [Option.some.injEq] at ha; subst ha
        have := H.blk b (H.lt hs)
        rw [hc] at this
        obtain ⟨r', base', size', es, clock, h1, h2, h3, h4⟩ := this
        rw [hs] at h1
        simp only [Option.some.injEq, Prod.mk.injEq] at h1
        obtain ⟨rfl, rfl, rfl⟩ := h1
        refine ⟨_, .int _ _, ?_⟩
        have hl := h3.1.length
        have hgo : (getObj r).run P w = .ok (.map es clock) w := by simp [getObj, Sem.run, h2]
        simp [execOp, resolve, invoke, builtin, hxv, Builtin.len_, run_underlying' hu, hgo, goInt, hl]
      · cases ha
    · cases ha
  · rename_i t x k ok
    split at ha
    · rename_i kt e hu
      split at ha
      · rename_i kd hkd
        cases hf : fitKey kd (ρ k) with
        | false => simp [hf] at ha
        | true =>
          simp only [hf, cond_true] at ha
          have hchk := fun em => fit_check (P := P) (w := w) (hρ k) hkd hf em
          split at ha
          · rename_i j v hl
            simp only [Option.some.injEq] at ha; subst ha
            obtain ⟨es, g1, g2⟩ := lookM_ok H (hρ x) (hρ k) hf hl
            rcases g2 with ⟨g2, _⟩ | ⟨j', v', u, g2, g3, g4⟩
            · cases g2
            · simp only [Option.some.injEq, Prod.mk.injEq] at g2
              obtain ⟨rfl, rfl⟩ := g2
              refine ⟨_, okA_ok (ok := ok) (b := true) g4, ?_⟩
              simp only [execOp]
              refine run_v ?_
              rcases g1 with ⟨g1, rfl⟩ | ⟨q, clock, g1, g5⟩
              · simp only [Instr.lookup, g1, Sem.run_bind, run_underlying' hu, Result.andThen_ok, Sem.run_pure, hchk, run_findKey' hkd g3]
              · have hgo : (getObj q).run P w = .ok (.map es clock) w := by simp [getObj, Sem.run, g5]
                simp only [Instr.lookup, g1, Sem.run_bind, run_underlying' hu, Result.andThen_ok, hgo, Sem.run_pure, hchk, run_findKey' hkd g3]
          · rename_i hl
            split at ha
            · cases ha
            · rename_i z hz
              simp only [Option.some.injEq] at ha; subst ha
              obtain ⟨es, g1, g2⟩ := lookM_ok H (hρ x) (hρ k) hf hl
              rcases g2 with ⟨_, g3⟩ | ⟨j', v', u, g2, g3, g4⟩
              · obtain ⟨zv, hzv, hzr⟩ := zeroA_ok (P := P) (t := e) rfl hz σ
                refine ⟨_, okA_ok (ok := ok) (b := false) hzr, ?_⟩
                simp only [execOp]
                refine run_v ?_
                rcases g1 with ⟨g1, rfl⟩ | ⟨q, clock, g1, g5⟩
                · simp only [Instr.lookup, g1, Sem.run_bind, run_underlying' hu, Result.andThen_ok, Sem.run_pure, hchk, run_findKey' hkd g3, run_zeroValue hzv]
                · have hgo : (getObj q).run P w = .ok (.map es clock) w := by simp [getObj, Sem.run, g5]
                  simp only [Instr.lookup, g1, Sem.run_bind, run_underlying' hu, Result.andThen_ok, hgo, Sem.run_pure, hchk, run_findKey' hkd g3, run_zeroValue hzv]
              · cases g2
          · cases ha
      · cases ha
    · cases ha
  · cases ha

end
end I
end Go.Proofs.YtpaekplhcjleaaaGreatDoor
