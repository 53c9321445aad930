import Derived.Test.YtpaekplhcjleaaaGreatDoorI13
import Derived.Lib.Bytealg
namespace Go.Proofs.YtpaekplhcjleaaaGreatDoor
namespace I
open K (one aggB run_underlying' run_sizeOf' add_none run_v cell_cells)
set_option linter.unusedVariables false

def acopy (P : Program) (e : TypeId) (h : AV) (x y : AV) : Option (AV × AV) :=
  match P.info? e, lenA y with
  | some inf, some ny => match x with
    | .nils => match firstA h inf.size 0 y with
      | some _ => some (.int .i64 0, h)
      | none => none
    | .sl b off len lb sz =>
      let k := bif Nat.ble ny len then ny else len
      match firstA h inf.size k y, cget HD h b with
      | some u, .cells ety n false t => bif Nat.beq sz inf.size && (Nat.ble (off + k * sz) n && !(Nat.beq lb 0)) then
          some (.int .i64 (.ofNat k), cput HD h b (.cells ety n false (cblit (lg n) t off (k * sz) u))) else none
      | _, _ => none
    | _ => none
  | _, _ => none

def amapUpd (P : Program) (h : AV) (nx : Nat) (t : TypeId) (m k x : AV) : Option (AV × AV × Nat) :=
  match P.underlying t, m with
  | some (.map kt _), .map b => match P.underlying kt, cget HD h b with
    | some kd, .mp l => bif fitKey kd k then
        match findI k l 0 with
        | some (some (i, _)) => some (.undef, cput HD h b (.mp (setI k x i l)), nx)
        | some none => some (.undef, cput HD h b (.mp (pushI k x l)), nx)
        | none => none
      else none
    | _, _ => none
  | _, _ => none

/-- How many of the n last bytes are c. -/
def cntF (c : Nat) : Nat → Nat → Nat → Nat
  | 0, _, a => a
  | n + 1, x, a => cntF c n (x / 256) (bif Nat.beq (x % 256) c then a + 1 else a)

def acountS (h : AV) (nx : Nat) (x y : AV) : Option (AV × AV × Nat) :=
  match x, y with
  | .str n s, .int .u8 (.ofNat c) => bif Nat.blt c 256 then some (.int .i64 (.ofNat (cntF c n s 0)), h, nx) else none
  | _, _ => none

def acloneM (h : AV) (nx : Nat) (x : AV) : Option (AV × AV × Nat) :=
  match x with
  | .ifc t (.map b) => match cget HD h b with
    | .mp l => bif Nat.blt nx (2 ^ HD) then some (.ifc t (.map nx), cput HD h nx (.mp l), nx + 1) else none
    | _ => none
  | _ => none

/-- Memory behind an operation that changes it, and its value. -/
def aeff (P : Program) (ρ : Operand → AV) (h : AV) (nx : Nat) (o : Oper) : Option (AV × AV × Nat) :=
  match o.op with
  | .store ty x y => match ρ x, rowA (ρ y), P.info? ty with
    | .ptr b off, some (m, s), some inf => match cget HD h b with
      | .cells ety n false t => bif Nat.beq m inf.size && Nat.ble (off + m) n then some (.undef, cput HD h b (.cells ety n false (cblit (lg n) t off m s)), nx) else none
      | _ => none
    | _, _, _ => none
  | .call ⟨.builtin .append, ⟨[x, y]⟩, ⟨[t, t2]⟩⟩ => match P.underlying t with
    | some (.slice e) => aappend P e t2 h nx (ρ x) (ρ y)
    | _ => none
  | .call ⟨.builtin .copy, ⟨[x, y]⟩, ⟨t :: tys⟩⟩ => match P.underlying t with
    | some (.slice e) => match acopy P e h (ρ x) (ρ y) with
      | some r => some (r.1, r.2, nx)
      | none => none
    | _ => none
  | .call ⟨.builtin .unsafeString, ⟨[x, y]⟩, ⟨[pt, it]⟩⟩ => match ρ x, ρ y with
    | .nilp, .int .i64 (.ofNat 0) => some (.str 0 0, h, nx)
    | .ptr b off, .int .i64 (.ofNat 0) => some (.str 0 0, h, nx)
    | .ptr b off, .int .i64 (.ofNat k) => match cget HD h b, P.underlying pt with
      | .cells ety n false t, some (.pointer e) => bif Nat.beq (ety / 2) e && (Nat.beq (P.cellsOf e) 1 && (Nat.ble (off + k) n && Nat.ble k 9223372036854775807)) then
          match bytesOf (lg n) t k off 0 with
          | some x => some (.str k x, cput HD h b (.cells ety n true t), nx)
          | none => none
        else none
      | _, _ => none
    | _, _ => none
  | .call ⟨.value (.func f), ⟨[x]⟩, _⟩ => match P.funcs[f]? with
    | some fn => bif fn.body.isNone && (fn.name == "internal/abi.NoEscape" && fn.origin == "") then some (ρ x, h, nx) else
        bif fn.body.isNone && (fn.name == "maps.clone" && fn.origin == "") then acloneM h nx (ρ x) else none
    | none => none
  | .call ⟨.value (.func f), ⟨[x, y]⟩, _⟩ => match P.funcs[f]? with
    | some fn => bif fn.body.isNone && (fn.name == "internal/bytealg.CountString" && fn.origin == "") then acountS h nx (ρ x) (ρ y) else none
    | none => none
  | .mapUpdate t m k x => amapUpd P h nx t (ρ m) (ρ k) (ρ x)
  | .insert t m k x => amapUpd P h nx t (ρ m) (ρ k) (ρ x)
  | .call ⟨.builtin .clear, ⟨[x]⟩, ⟨[t]⟩⟩ => match P.underlying t, ρ x with
    | some _, .map b => match cget HD h b with
      | .mp _ => some (.undef, cput HD h b (.mp .lnil), nx)
      | _ => none
    | some _, .nilm => some (.undef, h, nx)
    | _, _ => none
  | .call ⟨.builtin .delete, ⟨[x, k]⟩, ⟨t :: tys⟩⟩ => match P.underlying t, ρ x with
    | some (.map kt _), .map b => match P.underlying kt, cget HD h b with
      | some kd, .mp l => bif fitKey kd (ρ k) then
          match findI (ρ k) l 0 with
          | some (some (i, _)) => some (.undef, cput HD h b (.mp (dropI i l)), nx)
          | some none => some (.undef, h, nx)
          | none => none
        else none
      | _, _ => none
    | _, _ => none
  | _ => none

section
variable {P : Program} {σ : Sg} {h : AV} {nx : Nat} {w0 w : World} {B : Fr}

theorem next_noEscape : (Extern.allNextRows.lookup "internal/abi.NoEscape").isNone = true := by kernel_rfl
theorem next_empty : (Extern.allNextRows.lookup "").isNone = true := by kernel_rfl
theorem generic_noEscape : (Extern.allGenericRows.lookup "internal/abi.NoEscape").isNone = true := by kernel_rfl
theorem typed_noEscape : (Extern.allTypedRows.lookup "internal/abi.NoEscape").isNone = true := by kernel_rfl
theorem row_noEscape : Extern.allRows.lookup "internal/abi.NoEscape" = some Extern.AbiNoEscape.same := by kernel_rfl

theorem run_noEscape {f : Nat} {fn : Func} {x : Value} (hf : P.funcs[f]? = some fn) (hb : fn.body.isNone = true) (hn : fn.name = "internal/abi.NoEscape") (ho : fn.origin = "") : (callFunc f #[x]).run P w = .ok (.value x) w := by
  have e1 : Extern.allNextRows.lookup "internal/abi.NoEscape" = none := Option.isNone_iff_eq_none.1 next_noEscape
  have e2 : Extern.allNextRows.lookup "" = none := Option.isNone_iff_eq_none.1 next_empty
  have e3 : Extern.allGenericRows.lookup "internal/abi.NoEscape" = none := Option.isNone_iff_eq_none.1 generic_noEscape
  have e4 : Extern.allTypedRows.lookup "internal/abi.NoEscape" = none := Option.isNone_iff_eq_none.1 typed_noEscape
  have h1 : Extern.findNext fn = none := by
    unfold Extern.findNext
    simp only [hn, ho, e1, e2, Option.map_none]; rfl
  have h2 : Extern.find fn = some Extern.AbiNoEscape.same := by
    unfold Extern.find
    simp only [hn, ho, e3, e4, row_noEscape, Option.map_none]; rfl
  have h3 : (fn.name == "runtime.NumGoroutine") = false := by rw [hn]; decide
  unfold callFunc
  simp only [Sem.run_bind, program, Sem.run, Result.andThen_ok, hf, h3, hb, Bool.false_eq_true, if_false, if_true, mark, h1, h2]
  rfl

theorem run_copy {t e oty : TypeId} {tys : List TypeId} {inf : TypeInfo} {r o dl cap m : Nat} {yv : Value} {new : Array Value} {w' : World} (hu : P.underlying t = some (.slice e)) (hi : P.info? e = some inf)
    (hl : (Builtin.lenOf yv).run P w = .ok m w) (hf : (Builtin.firstCells inf.size (Nat.min m dl) yv).run P w = .ok new w) (hs : (storeCells ⟨r, o, none⟩ new.toList 0).run P w = .ok () w') :
    (Builtin.copy_ ⟨t :: tys⟩ oty #[.slice (some ⟨r, o, none⟩) dl cap, yv]).run P w = .ok (.int .i64 (Nat.min m dl : Nat)) w' := by
  simp only [Builtin.copy_, Sem.run_bind, run_underlying' hu, run_sizeOf' hi, Result.andThen_ok, Sem.run_pure, List.getElem?_toArray, List.getElem?_cons_zero, List.getElem?_cons_succ, hl, hf, hs, goInt]

theorem run_copy_nil {t e oty : TypeId} {tys : List TypeId} {inf : TypeInfo} {m : Nat} {yv : Value} {new : Array Value} (hu : P.underlying t = some (.slice e)) (hi : P.info? e = some inf)
    (hl : (Builtin.lenOf yv).run P w = .ok m w) (hf : (Builtin.firstCells inf.size 0 yv).run P w = .ok new w) :
    (Builtin.copy_ ⟨t :: tys⟩ oty #[.slice none 0 0, yv]).run P w = .ok (.int .i64 0) w := by
  have h0 : Nat.min m 0 = 0 := Nat.min_eq_right (Nat.zero_le m)
  simp only [Builtin.copy_, Sem.run_bind, run_underlying' hu, run_sizeOf' hi, Result.andThen_ok, Sem.run_pure, List.getElem?_toArray, List.getElem?_cons_zero, List.getElem?_cons_succ, hl, h0, hf, goInt]
  rfl

theorem acopy_ok {t e oty : TypeId} {tys : List TypeId} {x y a h' : AV} {xv yv : Value} (H : HS σ h nx w0 B w) (hu : P.underlying t = some (.slice e)) (hx : Rel σ x xv) (hy : Rel σ y yv) (ha : acopy P e h x y = some (a, h')) :
    EffOk P σ h nx w0 B w (Builtin.copy_ ⟨t :: tys⟩ oty #[xv, yv]) a h' nx := by
  unfold acopy at ha
  split at ha
  · rename_i inf ny hinf hlen
    have hl := lenA_ok (P := P) (w := w) hy hlen
    split at ha
    · cases hx
      split at ha
      · rename_i u hf
        simp only [Option.some.injEq, Prod.mk.injEq] at ha
        obtain ⟨rfl, rfl⟩ := ha
        obtain ⟨new, hf', hnew⟩ := firstA_ok (P := P) H hy hlen (Nat.zero_le _) hf
        exact ⟨σ, _, w, SubX.refl nx σ, Dk.refl nx h, Nat.le_refl _, run_copy_nil hu hinf hl (hf' w rfl), .int _ _, H⟩
      · cases ha
    · rename_i b off len lb sz
      cases hx with
      | sl _ _ _ _ _ r base size o cap hs q1 q2 q3 q4 =>
      have hk : (bif Nat.ble ny len then ny else len) = Nat.min ny len := by
        cases hb : Nat.ble ny len with
        | true => have := ble_iff.1 hb; simp only [cond_true]; exact (Nat.min_eq_left this).symm
        | false =>
          have : ¬ ny ≤ len := fun hh => by rw [ble_iff.2 hh] at hb; cases hb
          simp only [cond_false]; exact (Nat.min_eq_right (by omega)).symm
      simp only [hk] at ha
      split at ha
      · rename_i u ety n t' hf hc
        cases hb : (Nat.beq sz inf.size && (Nat.ble (off + Nat.min ny len * sz) n && !(Nat.beq lb 0))) with
        | false => simp [hb] at ha
        | true =>
          simp only [hb, cond_true, Option.some.injEq, Prod.mk.injEq] at ha
          obtain ⟨rfl, rfl⟩ := ha
          simp only [Bool.and_eq_true, Bool.not_eq_true'] at hb
          have e0 := beqn_iff.1 hb.1
          have e1 := ble_iff.1 hb.2.1
          have e2 : lb ≠ 0 := fun e => by rw [beqn_iff.2 e] at hb; simp at hb
          have e3 := q3 e2
          subst e0
          obtain ⟨new, hf', hnew⟩ := firstA_ok (P := P) H hy hlen (Nat.min_le_left _ _) hf
          obtain ⟨w', g1, g2⟩ := H.write (P := P) hs hc hnew e1
          rw [← e3] at g1
          exact ⟨σ, _, w', SubX.refl nx σ, H.dkPut hs (by rw [hc]; rfl), Nat.le_refl _, run_copy hu hinf hl (hf' w rfl) g1, .int _ _, g2⟩
      · cases ha
    · cases ha
  · cases ha

theorem liesAt_off {e : TypeId} (hc : P.cellsOf e = 1) (count off n : Nat) (hn : off + n ≤ count) : liesAt P P.depth e count off e n = true := by
  have hd : P.depth = (2 * (P.types.size + Made.depth) + 1) + 1 := rfl
  rw [hd]
  simp only [liesAt, Bool.or_eq_true]
  left
  rw [hd]
  simp [rowAt, hc, hn, sameLayout, Nat.mod_one]

theorem run_unsafeString {pt it ty e : TypeId} (hp : P.underlying pt = some (.pointer e)) (hc : P.cellsOf e = 1) {g off cells : Nat} (hsh : w.shape? g = some (e, cells)) {l : List UInt8} (h0 : l ≠ []) (hn : off + l.length ≤ cells) (h63 : l.length ≤ 9223372036854775807)
    (hcell : ∀ j x, l[j]? = some x → w.cell? ((⟨g, off, none⟩ : Addr).add j) = some (.int .u8 x.toNat)) :
    (Builtin.unsafeString_ #[pt, it] ty #[.pointer (some ⟨g, off, none⟩), .int .i64 l.length]).run P w = .ok (.string ⟨l.toArray⟩) (w.freeze ⟨g, off, none⟩ l.length) := by
  have hl : l.length ≠ 0 := by simpa using h0
  have hlb := Lib.run_loadBytes (P := P) w l ⟨g, off, none⟩ .empty hcell
  have hlies := liesAt_off (P := P) hc (cells / P.cellsOf e) off l.length (by rw [hc]; simpa using hn)
  have h63' : ¬ (9223372036854775807 : Int) < (l.length : Int) := by omega
  refine Eq.trans (b := Sem.run P (Bind.bind (asInt (.int .i64 l.length)) _) w) rfl ?_
  have hmax : IntKind.i64.max = 9223372036854775807 := rfl
  have hneg : ¬ (l.length : Int) < 0 := by omega
  simp [asInt, asIntOf, hmax, h63', hneg, hl, variablesAt, hsh, elemOf, run_underlying' hp, hlies, hlb]

/-- The value of an operation that only changes memory is not there. -/
def StepOk (P : Program) (σ : Sg) (h : AV) (nx : Nat) (w0 : World) (B : Fr) (w : World) (s : Sem Next) (a h' : AV) (nx' : Nat) : Prop :=
  ∃ σ' v w', SubX nx σ σ' ∧ Dk nx h h' ∧ nx ≤ nx' ∧ (s.run P w = .ok (.value v) w' ∨ (s.run P w = .ok .skip w' ∧ v = Go.undef)) ∧ Rel σ' a v ∧ HS σ' h' nx' w0 B w'

theorem EffOk.step {s : Sem Value} {s' : Sem Next} {a h' : AV} {nx' : Nat} (hh : EffOk P σ h nx w0 B w s a h' nx') (hs : ∀ v w', s.run P w = .ok v w' → s'.run P w = .ok (.value v) w') : StepOk P σ h nx w0 B w s' a h' nx' := by
  obtain ⟨σ', v, w', h1, h1', h1'', h2, h3, h4⟩ := hh
  exact ⟨σ', v, w', h1, h1', h1'', .inl (hs v w' h2), h3, h4⟩

theorem HS.mp (H : HS σ h nx w0 B w) {b r base size : Nat} {l : AV} (hb : σ b = some (r, base, size)) (hc : cget HD h b = .mp l) : ∃ es clock, w.heap[r]? = some (.map es clock) ∧ EsRel σ l es.toList ∧ (B.wr r ∨ w0.heap.size ≤ r) ∧ Go.MapKept.Stamped es clock := by
  have := H.blk b (H.lt hb)
  rw [hc] at this
  obtain ⟨r', base', size', es, clock, h1, h2, h3, h4⟩ := this
  rw [hb] at h1
  simp only [Option.some.injEq, Prod.mk.injEq] at h1
  obtain ⟨rfl, rfl, rfl⟩ := h1
  exact ⟨es, clock, h2, h3.1, h4, h3.2⟩

/-- Another content of a map. -/
theorem HS.setMap (H : HS σ h nx w0 B w) {b r base size : Nat} {l l' : AV} {es' : Array MapEntry} {clock' : Nat} (hb : σ b = some (r, base, size)) (hc : cget HD h b = .mp l) (hl : EsRel σ l' es'.toList) (hst : Go.MapKept.Stamped es' clock') :
    HS σ (cput HD h b (.mp l')) nx w0 B { w with heap := w.heap.setIfInBounds r (.map es' clock') } := by
  obtain ⟨es, clock, h2, h3, h4, _⟩ := H.mp hb hc
  exact H.upd hb (by rw [hc]; rfl) h4 rfl rfl rfl rfl ⟨r, base, size, es', clock', hb, by simp [lt_of_get h2], ⟨hl, hst⟩, h4⟩

theorem amapUpd_ok {t : TypeId} {m k x a h' : AV} {nx' : Nat} {mv kv xv : Value} (H : HS σ h nx w0 B w) (hm : Rel σ m mv) (hk : Rel σ k kv) (hx : Rel σ x xv) (ha : amapUpd P h nx t m k x = some (a, h', nx')) :
    ∃ w', (Instr.mapUpdate t mv kv xv).run P w = .ok () w' ∧ a = .undef ∧ nx' = nx ∧ Dk nx h h' ∧ HS σ h' nx w0 B w' := by
  unfold amapUpd at ha
  split at ha
  · rename_i kt e b hu
    cases hm with
    | map _ r base size hs =>
    split at ha
    · rename_i kd l hkd hc
      cases hf : fitKey kd k with
      | false => simp [hf] at ha
      | true =>
        simp only [hf, cond_true] at ha
        obtain ⟨es, clock, h2, h3, h4, hst⟩ := H.mp hs hc
        have hgo : (getObj r).run P w = .ok (.map es clock) w := by simp [getObj, Sem.run, h2]
        have hso : ∀ o, (setObj r o).run P w = .ok () { w with heap := w.heap.setIfInBounds r o } := fun o => by simp [setObj, Sem.run, h2]
        have hchk := fit_check (P := P) (w := w) hk hkd hf false
        split at ha
        · rename_i i v hfi
          simp only [Option.some.injEq, Prod.mk.injEq] at ha
          obtain ⟨rfl, rfl, rfl⟩ := ha
          rcases findI_ok hk hf h3 hfi with ⟨g, _⟩ | ⟨j, v', u, g1, g2, g3, g4, en, g5, g6, g7⟩
          · cases g
          · simp only [Option.some.injEq, Prod.mk.injEq] at g1
            obtain ⟨rfl, rfl⟩ := g1
            rw [Nat.sub_zero] at g5
            have hget : es[i]? = some en := by simpa using g5
            have hlt : i < es.size := (Array.getElem?_eq_some_iff.1 hget).1
            have hkt : (Instr.keyThatStays (((es[i]?).map (·.key)).getD kv) kv).run P w = .ok kv w := by
              rw [hget]
              simp only [Option.map_some, Option.getD_some, Instr.keyThatStays, same_bits g7, if_true]; rfl
            have hmod : es.modify i (fun e => { e with key := kv, val := xv }) = (es.toList.set i { en with key := kv, val := xv }).toArray := by
              apply Array.ext'
              apply List.ext_getElem?
              intro q
              simp only [Array.getElem?_toList, Array.getElem?_modify, List.getElem?_set, Array.length_toList]
              by_cases hq : i = q
              · subst hq; simp [hlt]; rw [(Array.getElem?_eq_some_iff.1 hget).2]
              · simp [hq]
            refine ⟨_, ?_, rfl, rfl, H.dkPut hs (by rw [hc]; rfl), H.setMap (clock' := clock) (es' := es.modify i (fun e => { e with key := kv, val := xv })) hs hc (by rw [hmod]; exact EsRel.set hk hx h3 g5) (Go.MapKept.stamped_modify hst i _ (fun _ _ => rfl) (fun e _ hge => by rw [hget] at hge; cases hge; exact same_eq g7))⟩
            simp only [Instr.mapUpdate, Sem.run_bind, run_underlying' hu, Result.andThen_ok, hgo, hchk, run_findKey' hkd g2, hkt, hso]
        · rename_i hfi
          simp only [Option.some.injEq, Prod.mk.injEq] at ha
          obtain ⟨rfl, rfl, rfl⟩ := ha
          rcases findI_ok hk hf h3 hfi with ⟨_, g2⟩ | ⟨j, v', u, g1, _⟩
          · refine ⟨_, ?_, rfl, rfl, H.dkPut hs (by rw [hc]; rfl), H.setMap (clock' := clock + 1) (es' := es.push { key := kv, val := xv, born := clock }) hs hc (by rw [Array.toList_push]; exact EsRel.push hk hx h3) (Go.MapKept.stamped_push hst (find_none (same_self hk hf) g2))⟩
            simp only [Instr.mapUpdate, Sem.run_bind, run_underlying' hu, Result.andThen_ok, hgo, hchk, run_findKey' hkd g2, hso]
          · cases g1
        · cases ha
    · cases ha
  · cases ha

theorem next_clone : (Extern.allNextRows.lookup "maps.clone").isNone = true := by kernel_rfl
theorem generic_clone : (Extern.allGenericRows.lookup "maps.clone").isNone = true := by kernel_rfl
theorem typed_clone : (Extern.allTypedRows.lookup "maps.clone").isNone = true := by kernel_rfl
theorem row_clone : Extern.allRows.lookup "maps.clone" = some Extern.MapsClone.clone := by kernel_rfl
theorem next_count : (Extern.allNextRows.lookup "internal/bytealg.CountString").isNone = true := by kernel_rfl
theorem generic_count : (Extern.allGenericRows.lookup "internal/bytealg.CountString").isNone = true := by kernel_rfl
theorem typed_count : (Extern.allTypedRows.lookup "internal/bytealg.CountString").isNone = true := by kernel_rfl
theorem row_count : Extern.allRows.lookup "internal/bytealg.CountString" = some Extern.BytealgCount.count := by kernel_rfl

theorem run_extern1 {f : Nat} {fn : Func} {nm : String} {ex : Array Value → Sem Value} {args : Array Value} {v : Value} {w' : World} (hf : P.funcs[f]? = some fn) (hb : fn.body.isNone = true) (hn : fn.name = nm) (ho : fn.origin = "")
    (q1 : (Extern.allNextRows.lookup nm).isNone = true) (q2 : (Extern.allGenericRows.lookup nm).isNone = true) (q3 : (Extern.allTypedRows.lookup nm).isNone = true) (q4 : Extern.allRows.lookup nm = some ex) (q5 : (nm == "runtime.NumGoroutine") = false)
    (hr : (ex args).run P w = .ok v w') : (callFunc f args).run P w = .ok (.value v) w' := by
  have e1 : Extern.allNextRows.lookup nm = none := Option.isNone_iff_eq_none.1 q1
  have e2 : Extern.allNextRows.lookup "" = none := Option.isNone_iff_eq_none.1 next_empty
  have e3 : Extern.allGenericRows.lookup nm = none := Option.isNone_iff_eq_none.1 q2
  have e4 : Extern.allTypedRows.lookup nm = none := Option.isNone_iff_eq_none.1 q3
  have h1 : Extern.findNext fn = none := by
    unfold Extern.findNext
    simp only [hn, ho, e1, e2, Option.map_none]; rfl
  have h2 : Extern.find fn = some ex := by
    unfold Extern.find
    simp only [hn, ho, e3, e4, q4, Option.map_none]; rfl
  have h3 : (fn.name == "runtime.NumGoroutine") = false := by rw [hn]; exact q5
  unfold callFunc
  simp only [Sem.run_bind, program, Sem.run, Result.andThen_ok, hf, h3, hb, Bool.false_eq_true, if_false, if_true, mark, h1, h2]
  rw [hr]
  rfl

theorem cntF_rev (c : Nat) (hc : c < 256) : ∀ (r : List UInt8) (a : Nat), cntF c r.length (val r.reverse) a = a + r.count c.toUInt8
  | [], a => rfl
  | b :: r, a => by
    rw [List.reverse_cons, List.length_cons, val_append, List.length_singleton, show val [b] = b.toNat by simp [val, strOf], Nat.pow_one, cntF]
    have hb := b.toNat_lt
    rw [show (val r.reverse * 256 + b.toNat) / 256 = val r.reverse by omega, show (val r.reverse * 256 + b.toNat) % 256 = b.toNat by omega, cntF_rev c hc r, List.count_cons]
    have hcc : Nat.beq b.toNat c = (b == c.toUInt8) := by
      rw [Bool.eq_iff_iff, beqn_iff, beq_iff_eq]
      constructor
      · intro h; rw [← h]; simp
      · intro h; rw [h]; simp; omega
    rw [hcc]
    cases b == c.toUInt8 <;> simp <;> omega
theorem cntF_eq (c : Nat) (l : List UInt8) (a : Nat) (hc : c < 256) : cntF c l.length (val l) a = a + l.count c.toUInt8 := by
  have := cntF_rev c hc l.reverse a
  rwa [List.length_reverse, List.reverse_reverse, List.count_reverse] at this

theorem acountS_ok {x y a h' : AV} {nx' : Nat} {xv yv : Value} (H : HS σ h nx w0 B w) (hx : Rel σ x xv) (hy : Rel σ y yv) (ha : acountS h nx x y = some (a, h', nx')) : EffOk P σ h nx w0 B w (Extern.BytealgCount.count #[xv, yv]) a h' nx' := by
  unfold acountS at ha
  split at ha
  · rename_i n s c
    cases hx with
    | str t _ _ hn hs =>
    cases hy with
    | int _ _ =>
    cases hc : Nat.blt c 256 with
    | false => simp [hc] at ha
    | true =>
      simp only [hc, cond_true, Option.some.injEq, Prod.mk.injEq] at ha
      obtain ⟨rfl, rfl, rfl⟩ := ha
      have hr := Lib.run_countString (P := P) t (.ofNat c) w
      refine ⟨σ, _, w, SubX.refl nx σ, Dk.refl nx h, Nat.le_refl _, hr, ?_, H⟩
      have e : cntF c n s 0 = Lib.countByte t.data.toList c.toUInt8 := by
        have hl : n = t.data.toList.length := by rw [hn]; simp
        rw [hs, hl, cntF_eq c _ _ (blt_iff.1 hc), Nat.zero_add]; rfl
      rw [e]
      exact .int _ _
  · cases ha

theorem acloneM_ok {x a h' : AV} {nx' : Nat} {xv : Value} (H : HS σ h nx w0 B w) (hx : Rel σ x xv) (ha : acloneM h nx x = some (a, h', nx')) : EffOk P σ h nx w0 B w (Extern.MapsClone.clone #[xv]) a h' nx' := by
  unfold acloneM at ha
  split at ha
  · rename_i t b
    cases hx with
    | ifc _ _ vv hv =>
    cases hv with
    | map _ r base size hs =>
    split at ha
    · rename_i l hc
      cases hn : Nat.blt nx (2 ^ HD) with
      | false => simp [hn] at ha
      | true =>
        simp only [hn, cond_true, Option.some.injEq, Prod.mk.injEq] at ha
        obtain ⟨rfl, rfl, rfl⟩ := ha
        obtain ⟨es, clock, h2, h3, h4, hst⟩ := H.mp hs hc
        have hgo : (getObj r).run P w = .ok (.map es clock) w := by simp [getObj, Sem.run, h2]
        have H' := H.new (blt_iff.1 hn) (p := (w.heap.size, 0, 0)) (x := .mp l) (w' := w.alloc (.map es clock)) rfl rfl rfl rfl rfl
          ⟨w.heap.size, 0, 0, es, clock, by simp [ext], K.get_alloc w _, ⟨h3.mono (H.sub_ext _), hst⟩, .inr H.size⟩
        refine ⟨ext σ nx (w.heap.size, 0, 0), .iface t (.map (some w.heap.size)), _, H.subX _, dkNew (blt_iff.1 hn), by omega, ?_, .ifc _ _ _ (.map _ w.heap.size 0 0 (by simp [ext])), H'⟩
        refine Eq.trans (b := Sem.run P (Bind.bind (getObj r) _) w) rfl ?_
        simp only [Sem.run_bind, hgo, Result.andThen_ok]
        rfl
    · cases ha
  · cases ha

theorem aeff_ok {ρ : Operand → AV} {ev : Operand → Value} {o : Oper} {a h' : AV} {nx' : Nat} (H : HS σ h nx w0 B w) (hfv : ∀ f, ev (.func f) = .func (.func f) #[] #[]) (hρ : ∀ x, Rel σ (ρ x) (ev x)) (ha : aeff P ρ h nx o = some (a, h', nx')) :
    StepOk P σ h nx w0 B w (execOp ev o) a h' nx' := by
  obtain ⟨dst, op, oty, pos, after, guard⟩ := o
  unfold aeff at ha
  dsimp only at ha
  split at ha
  · rename_i ty x y
    split at ha
    · rename_i b off m s inf he hr hinf
      split at ha
      · rename_i ety n t hc
        cases hb : (Nat.beq m inf.size && Nat.ble (off + m) n) with
        | false => simp [hb] at ha
        | true =>
          simp only [hb, cond_true, Option.some.injEq, Prod.mk.injEq] at ha
          obtain ⟨rfl, rfl, rfl⟩ := ha
          simp only [Bool.and_eq_true] at hb
          have e0 := beqn_iff.1 hb.1
          have e1 := ble_iff.1 hb.2
          have hx := hρ x
          rw [he] at hx
          generalize hxv : ev x = xv at hx
          cases hx with
          | ptr _ _ r base size o hs ho =>
          have hrow := rowA_ok (hρ y) hr
          obtain ⟨w', g1, g2⟩ := H.write (P := P) hs hc hrow e1
          refine ⟨σ, Go.undef, w', SubX.refl nx σ, H.dkPut hs (by rw [hc]; rfl), Nat.le_refl _, .inr ⟨?_, rfl⟩, .undef, g2⟩
          rw [← ho] at g1
          have e2 : ¬ ((ev y).cells.size ≠ inf.size) := by rw [hrow.1]; omega
          simp [execOp, hxv, Instr.storeAt, Instr.sureAddr, storeVar, run_sizeOf' hinf, hrow.1, e0, g1]
      · cases ha
    · cases ha
  · rename_i x y t t2
    split at ha
    · rename_i e hu
      exact (aappend_ok (oty := oty) H hu (hρ x) (hρ y) ha).step (fun v w' hv => by simp [execOp, resolve, invoke, builtin, hv])
    · cases ha
  · rename_i x y t tys
    split at ha
    · rename_i e hu
      split at ha
      · rename_i r hr
        simp only [Option.some.injEq, Prod.mk.injEq] at ha
        obtain ⟨rfl, rfl, rfl⟩ := ha
        exact (acopy_ok (oty := oty) (tys := tys) H hu (hρ x) (hρ y) hr).step (fun v w' hv => by simp [execOp, resolve, invoke, builtin, hv])
      · cases ha
    · cases ha
  · rename_i x y pt it
    have hx := hρ x
    have hy := hρ y
    generalize hxv : ev x = xv at hx
    generalize hyv : ev y = yv at hy
    have hrun : ∀ v w', (Builtin.unsafeString_ #[pt, it] oty #[xv, yv]).run P w = .ok v w' → (execOp ev ⟨dst, .call ⟨.builtin .unsafeString, ⟨[x, y]⟩, ⟨[pt, it]⟩⟩, oty, pos, after, guard⟩).run P w = .ok (.value v) w' := by
      intro v w' hv
      simp [execOp, resolve, invoke, builtin, hxv, hyv, hv]
    split at ha
    · rename_i he1 he2
      simp only [Option.some.injEq, Prod.mk.injEq] at ha
      obtain ⟨rfl, rfl, rfl⟩ := ha
      rw [he1] at hx; rw [he2] at hy
      cases hx; cases hy
      exact ⟨σ, _, w, SubX.refl nx σ, Dk.refl nx h, Nat.le_refl _, .inl (hrun _ _ (Lib.run_unsafeString_none w pt it oty none)), .str _ _ _ rfl rfl, H⟩
    · rename_i b off he1 he2
      simp only [Option.some.injEq, Prod.mk.injEq] at ha
      obtain ⟨rfl, rfl, rfl⟩ := ha
      rw [he1] at hx; rw [he2] at hy
      cases hx; cases hy
      exact ⟨σ, _, w, SubX.refl nx σ, Dk.refl nx h, Nat.le_refl _, .inl (hrun _ _ (Lib.run_unsafeString_none w pt it oty _)), .str _ _ _ rfl rfl, H⟩
    · rename_i b off k hk0 he1 he2
      split at ha
      · rename_i ety n t e hc hu
        cases hb : (Nat.beq (ety / 2) e && (Nat.beq (P.cellsOf e) 1 && (Nat.ble (off + k) n && Nat.ble k 9223372036854775807))) with
        | false => simp [hb] at ha
        | true =>
          simp only [hb, cond_true] at ha
          simp only [Bool.and_eq_true] at hb
          have e0 := beqn_iff.1 hb.1
          have e1 := beqn_iff.1 hb.2.1
          have e2 := ble_iff.1 hb.2.2.1
          have e3 := ble_iff.1 hb.2.2.2
          have ek : k ≠ 0 := hk0
          subst e0
          split at ha
          · rename_i z hz
            simp only [Option.some.injEq, Prod.mk.injEq] at ha
            obtain ⟨rfl, rfl, rfl⟩ := ha
            rw [he1] at hx; rw [he2] at hy
            cases hy
            cases hx with
            | ptr _ _ r base size o hs ho =>
            obtain ⟨cs, fr, h1, h2, h3, h4, h5⟩ := H.cellsT hs hc (.inl rfl)
            obtain ⟨h6, h7⟩ := h5 rfl
            obtain ⟨l, g1, g2, g3⟩ := bytesOf_ok (cs := cs) (base := base) (σ := σ) hz (fun j hj hj' => by
              obtain ⟨v, f1, f2, f3⟩ := h4 j (by omega)
              exact ⟨v, f1, f3⟩)
            have hl0 : l ≠ [] := fun e => by rw [e] at g1; exact ek (by simpa using g1.symm)
            have hsh : w.shape? r = some (ety / 2, size) := by simp [World.shape?, h1, h2]
            have hrs := run_unsafeString (P := P) (w := w) (it := it) (ty := oty) hu e1 hsh (off := o) hl0 (by omega) (by omega) (fun j x hj => by
              have hjl := (List.getElem?_eq_some_iff.1 hj).1
              rw [add_none, cell_cells h1, ho, Nat.add_assoc, g3 j (by omega), List.getD_eq_getElem?_getD, hj]; rfl)
            rw [g1] at hrs
            let w2 := w.freeze ⟨r, o, none⟩ k
            have hw2 : ∃ fr', w2.heap = w.heap.setIfInBounds r (.cells cs (ety / 2) fr') := by
              refine ⟨if fr.1 == fr.2 then (o, o + k) else (min fr.1 o, max fr.2 (o + k)), ?_⟩
              simp only [w2, World.freeze]
              rw [if_neg (fun e => by rw [e] at g1; exact hl0 (List.eq_nil_of_length_eq_zero g1))]
              apply Array.ext_getElem?
              intro i
              simp only [Array.getElem?_modify]
              have hlt := lt_of_get h1
              by_cases hi : r = i
              · subst hi
                rw [if_pos rfl, h1]
                simp only [Option.map_some, Array.getElem?_setIfInBounds, hlt, if_true]
              · simp [hi]
            obtain ⟨fr', hw2⟩ := hw2
            refine ⟨σ, .string ⟨l.toArray⟩, w2, SubX.refl nx σ, H.dkPut hs (by rw [hc]; rfl), Nat.le_refl _, .inl (hrun _ _ hrs), .str _ _ _ (by show k = l.toArray.size; simp [g1]) (by simpa [val] using g2), ?_⟩
            have hg2 : w2.heap[r]? = some (.cells cs (ety / 2) fr') := by rw [hw2]; simp [lt_of_get h1]
            have hos : w2.os = w.os ∧ w2.tape = w.tape ∧ w2.output = w.output := by
              simp only [w2, World.freeze]
              split <;> exact ⟨rfl, rfl, rfl⟩
            exact H.upd hs (by rw [hc]; rfl) h7 hw2 hos.1 hos.2.1 hos.2.2 ⟨r, base, size, cs, fr', ety / 2, hs, hg2, h2, h3, h4, (fun hh => by cases hh), fun _ => rfl⟩
          · cases ha
      · cases ha
    · cases ha
  · rename_i f x tys
    split at ha
    · rename_i fn hf
      cases hb : (fn.body.isNone && (fn.name == "internal/abi.NoEscape" && fn.origin == "")) with
      | false =>
        simp only [hb, cond_false] at ha
        cases hb2 : (fn.body.isNone && (fn.name == "maps.clone" && fn.origin == "")) with
        | false => simp [hb2] at ha
        | true =>
          simp only [hb2, cond_true] at ha
          simp only [Bool.and_eq_true, beq_iff_eq] at hb2
          have hxx := hρ x
          refine (acloneM_ok H hxx ha).step fun v w' hr => ?_
          simp only [execOp, resolve, hfv f, Deferred.ofValue, Sem.run_bind, Sem.run_pure, Result.andThen_ok, invoke]
          have e : (#[] ++ Array.map ev { toList := [x] } ++ #[] : Array Value) = #[ev x] := by simp
          rw [e, run_extern1 hf hb2.1 hb2.2.1 hb2.2.2 next_clone generic_clone typed_clone row_clone (by decide) hr]
      | true =>
        simp only [hb, cond_true, Option.some.injEq, Prod.mk.injEq] at ha
        obtain ⟨rfl, rfl, rfl⟩ := ha
        simp only [Bool.and_eq_true, beq_iff_eq] at hb
        have hr := run_noEscape (P := P) (w := w) (x := ev x) hf hb.1 hb.2.1 hb.2.2
        have hfn := hρ (.func f)
        refine ⟨σ, ev x, w, SubX.refl nx σ, Dk.refl nx h, Nat.le_refl _, .inl ?_, hρ x, H⟩
        simp only [execOp, resolve, hfv f, Deferred.ofValue, Sem.run_bind, Sem.run_pure, Result.andThen_ok, invoke]
        have e : (#[] ++ Array.map ev { toList := [x] } ++ #[] : Array Value) = #[ev x] := by simp
        rw [e]; exact hr
    · cases ha
  · rename_i f x y tys
    split at ha
    · rename_i fn hf
      cases hb : (fn.body.isNone && (fn.name == "internal/bytealg.CountString" && fn.origin == "")) with
      | false => simp [hb] at ha
      | true =>
        simp only [hb, cond_true] at ha
        simp only [Bool.and_eq_true, beq_iff_eq] at hb
        refine (acountS_ok H (hρ x) (hρ y) ha).step fun v w' hr => ?_
        simp only [execOp, resolve, hfv f, Deferred.ofValue, Sem.run_bind, Sem.run_pure, Result.andThen_ok, invoke]
        have e : (#[] ++ Array.map ev { toList := [x, y] } ++ #[] : Array Value) = #[ev x, ev y] := by simp
        rw [e, run_extern1 hf hb.1 hb.2.1 hb.2.2 next_count generic_count typed_count row_count (by decide) hr]
    · cases ha
  · rename_i t m k x
    obtain ⟨w', g1, rfl, rfl, g4, g5⟩ := amapUpd_ok (P := P) H (hρ m) (hρ k) (hρ x) ha
    refine ⟨σ, Go.undef, w', SubX.refl _ σ, g4, Nat.le_refl _, .inr ⟨?_, rfl⟩, .undef, g5⟩
    simp only [execOp, Sem.run_bind, g1, Result.andThen_ok, Sem.run_pure]
  · rename_i t m k x
    obtain ⟨w', g1, rfl, rfl, g4, g5⟩ := amapUpd_ok (P := P) H (hρ m) (hρ k) (hρ x) ha
    refine ⟨σ, Go.undef, w', SubX.refl _ σ, g4, Nat.le_refl _, .inr ⟨?_, rfl⟩, .undef, g5⟩
    simp only [execOp, Sem.run_bind, g1, Result.andThen_ok, Sem.run_pure]
  · rename_i x t
    have hx := hρ x
    generalize hxv : ev x = xv at hx
    have hrun : ∀ v w', (Builtin.clear_ #[t] oty #[xv]).run P w = .ok v w' → (execOp ev ⟨dst, .call ⟨.builtin .clear, ⟨[x]⟩, ⟨[t]⟩⟩, oty, pos, after, guard⟩).run P w = .ok (.value v) w' := by
      intro v w' hv
      simp [execOp, resolve, invoke, builtin, hxv, hv]
    split at ha
    · rename_i d0 b hu he
      rw [he] at hx
      cases hx with
      | map _ r base size hs =>
      split at ha
      · rename_i l hc
        simp only [Option.some.injEq, Prod.mk.injEq] at ha
        obtain ⟨rfl, rfl, rfl⟩ := ha
        obtain ⟨es, clock, h2, h3, h4, hst⟩ := H.mp hs hc
        have hgo : (getObj r).run P w = .ok (.map es clock) w := by simp [getObj, Sem.run, h2]
        have hso : ∀ o, (setObj r o).run P w = .ok () { w with heap := w.heap.setIfInBounds r o } := fun o => by simp [setObj, Sem.run, h2]
        refine ⟨σ, Go.undef, _, SubX.refl _ σ, H.dkPut hs (by rw [hc]; rfl), Nat.le_refl _, .inl (hrun _ _ ?_), .undef, H.setMap (es' := #[]) (clock' := clock) hs hc trivial (Go.MapKept.stamped_empty clock)⟩
        simp only [Builtin.clear_, Sem.run_bind, run_underlying' hu, Result.andThen_ok, hgo, hso, Sem.run_pure, List.getElem?_toArray, List.getElem?_cons_zero]
        rfl
      · cases ha
    · rename_i d0 hu he
      rw [he] at hx
      cases hx
      simp only [Option.some.injEq, Prod.mk.injEq] at ha
      obtain ⟨rfl, rfl, rfl⟩ := ha
      refine ⟨σ, Go.undef, w, SubX.refl _ σ, Dk.refl _ _, Nat.le_refl _, .inl (hrun _ _ ?_), .undef, H⟩
      simp only [Builtin.clear_, Sem.run_bind, run_underlying' hu, Result.andThen_ok, Sem.run_pure, List.getElem?_toArray, List.getElem?_cons_zero]
      rfl
    · cases ha
  · rename_i x k t tys
    have hx := hρ x
    generalize hxv : ev x = xv at hx
    have hrun : ∀ v w', (Builtin.delete_ ⟨t :: tys⟩ oty #[xv, ev k]).run P w = .ok v w' → (execOp ev ⟨dst, .call ⟨.builtin .delete, ⟨[x, k]⟩, ⟨t :: tys⟩⟩, oty, pos, after, guard⟩).run P w = .ok (.value v) w' := by
      intro v w' hv
      simp [execOp, resolve, invoke, builtin, hxv, hv]
    split at ha
    · rename_i kt e b hu he
      rw [he] at hx
      cases hx with
      | map _ r base size hs =>
      split at ha
      · rename_i kd l hkd hc
        cases hf : fitKey kd (ρ k) with
        | false => simp [hf] at ha
        | true =>
          simp only [hf, cond_true] at ha
          obtain ⟨es, clock, h2, h3, h4, hst⟩ := H.mp hs hc
          have hgo : (getObj r).run P w = .ok (.map es clock) w := by simp [getObj, Sem.run, h2]
          have hso : ∀ o, (setObj r o).run P w = .ok () { w with heap := w.heap.setIfInBounds r o } := fun o => by simp [setObj, Sem.run, h2]
          have hchk := fun em => fit_check (P := P) (w := w) (hρ k) hkd hf em
          split at ha
          · rename_i i v hfi
            simp only [Option.some.injEq, Prod.mk.injEq] at ha
            obtain ⟨rfl, rfl, rfl⟩ := ha
            rcases findI_ok (hρ k) hf h3 hfi with ⟨g, _⟩ | ⟨j, v', u, g1, g2, g3, g4, en, g5, g6, g7⟩
            · cases g
            · simp only [Option.some.injEq, Prod.mk.injEq] at g1
              obtain ⟨rfl, rfl⟩ := g1
              rw [Nat.sub_zero] at g5
              have hlt : i < es.size := by
                have := (List.getElem?_eq_some_iff.1 g5).1
                simpa using this
              refine ⟨σ, Go.undef, _, SubX.refl _ σ, H.dkPut hs (by rw [hc]; rfl), Nat.le_refl _, .inl (hrun _ _ ?_), .undef, H.setMap (es' := es.eraseIdxIfInBounds i) (clock' := clock) hs hc (by
                rw [show (es.eraseIdxIfInBounds i).toList = es.toList.eraseIdx i by rw [Array.eraseIdxIfInBounds_eq]; simp [hlt]]
                exact EsRel.drop h3 (by simpa using hlt)) (Go.MapKept.stamped_erase hst i)⟩
              simp only [Builtin.delete_, Sem.run_bind, run_underlying' hu, Result.andThen_ok, hgo, hchk, run_findKey' hkd g2, hso, Sem.run_pure, List.getElem?_toArray, List.getElem?_cons_zero, List.getElem?_cons_succ]
              rfl
          · rename_i hfi
            simp only [Option.some.injEq, Prod.mk.injEq] at ha
            obtain ⟨rfl, rfl, rfl⟩ := ha
            rcases findI_ok (hρ k) hf h3 hfi with ⟨_, g2⟩ | ⟨j, v', u, g1, _⟩
            · have hsame : (HS σ (cput HD h b (.mp l)) nx w0 B { w with heap := w.heap.setIfInBounds r (.map es clock) }) := H.setMap hs hc h3 hst
              have hw : ({ w with heap := w.heap.setIfInBounds r (.map es clock) } : World) = w := by
                have : w.heap.setIfInBounds r (.map es clock) = w.heap := by
                  apply Array.ext_getElem?
                  intro q
                  by_cases hq : r = q
                  · subst hq; rw [h2]; simp [lt_of_get h2]
                  · simp [hq]
                rw [this]
              refine ⟨σ, Go.undef, w, SubX.refl _ σ, Dk.refl _ _, Nat.le_refl _, .inl (hrun _ _ ?_), .undef, H⟩
              simp only [Builtin.delete_, Sem.run_bind, run_underlying' hu, Result.andThen_ok, hgo, hchk, run_findKey' hkd g2, hso, Sem.run_pure, List.getElem?_toArray, List.getElem?_cons_zero, List.getElem?_cons_succ, hw]
              rfl
            · cases g1
          · cases ha
      · cases ha
    · cases ha
  · cases ha

end
end I
end Go.Proofs.YtpaekplhcjleaaaGreatDoor
