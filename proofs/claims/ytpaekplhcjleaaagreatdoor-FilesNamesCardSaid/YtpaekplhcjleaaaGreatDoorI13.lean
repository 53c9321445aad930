import Derived.Test.YtpaekplhcjleaaaGreatDoorI12
namespace Go.Proofs.YtpaekplhcjleaaaGreatDoor
namespace I
open K (one aggB run_underlying' run_sizeOf' add_none run_v cell_cells)
set_option linter.unusedVariables false

/-! ### Operations that change memory -/

/-- Surely no room: the block is known to its end. -/
def noRoom (ety off len m lb sz n : Nat) : Bool := Nat.beq (ety % 2) 1 && Nat.blt n (bif Nat.beq lb 0 then (len + m) * sz else off + (len + m) * sz)

def aappend (P : Program) (e t2 : TypeId) (h : AV) (nx : Nat) (x y : AV) : Option (AV × AV × Nat) :=
  match P.info? e, P.underlying t2, lenA y with
  | some inf, some d2, some m => bif isI d2 || (Nat.beq inf.size 0 || Nat.ble (2 ^ HD) nx) then none else
    match firstA h inf.size m y, rowA (zeroA P e) with
    | some u, some (zn, _) => bif Nat.beq zn inf.size then
      match x with
      | .nils => bif Nat.beq m 0 then some (.nils, h, nx) else
          bif Nat.ble (m * inf.bytes) 140737488355328 && Nat.ble m 9223372036854775807 then
            some (.sl nx 0 m m inf.size, cput HD h nx (.cells (2 * e) (m * inf.size) false u), nx + 1) else none
      | .sl b off len lb sz => bif Nat.beq m 0 then some (.sl b off len lb sz, h, nx) else match cget HD h b with
        | .cells ety n false t => bif Nat.beq sz inf.size && Nat.beq (ety / 2) e then
            bif Nat.ble (len + m) lb && !(Nat.beq lb 0) then
              bif Nat.ble (off + (len + m) * sz) n then
                some (.sl b off (len + m) lb sz, cput HD h b (.cells ety n false (cblit (lg n) t (off + len * sz) (m * sz) u)), nx) else none
            else bif noRoom ety off len m lb sz n then
              bif Nat.ble ((len + m) * inf.bytes) 140737488355328 && (Nat.ble (len + m) 9223372036854775807 && Nat.ble (off + len * sz) n) then
                some (.sl nx 0 (len + m) (len + m) sz, cput HD h nx (.cells (2 * e) ((len + m) * sz) false (catA (len * sz) (crow (lg n) t off (len * sz)) (m * sz) u)), nx + 1) else none
            else
              bif Nat.ble ((len + m) * inf.bytes) 140737488355328 && (Nat.ble (len + m) 9223372036854775807 && (Nat.ble (off + len * sz) n && (Nat.beq off 0 && !(Nat.beq lb 0)))) then
                some (.sl nx 0 (len + m) (len + m) sz, cput HD (cput HD h b .dead) nx (.cells (2 * e) ((len + m) * sz) false (catA (len * sz) (crow (lg n) t off (len * sz)) (m * sz) u)), nx + 1) else none
          else none
        | _ => none
      | _ => none
      else none
    | _, _ => none
  | _, _, _ => none

section
variable {P : Program} {σ : Sg} {h : AV} {nx : Nat} {w0 w : World} {B : Fr}

/-- More names, none of them below nx. -/
def SubX (nx : Nat) (σ σ' : Sg) : Prop := Sub σ σ' ∧ ∀ b, b < nx → σ' b = σ b

theorem SubX.refl (nx : Nat) (σ : Sg) : SubX nx σ σ := ⟨fun _ _ h => h, fun _ _ => rfl⟩
theorem SubX.trans {nx nx' : Nat} {σ σ' σ'' : Sg} (h : SubX nx σ σ') (h' : SubX nx' σ' σ'') (hle : nx ≤ nx') : SubX nx σ σ'' :=
  ⟨fun b p hb => h'.1 b p (h.1 b p hb), fun b hb => (h'.2 b (by omega)).trans (h.2 b hb)⟩
theorem HS.subX (H : HS σ h nx w0 B w) (p : Pl) : SubX nx σ (ext σ nx p) := ⟨H.sub_ext p, fun b hb => by unfold ext; rw [if_neg (by omega)]⟩

/-- What is not known stays so. -/
def Dk (nx : Nat) (h h' : AV) : Prop := ∀ b, b < nx → live (cget HD h' b) = true → live (cget HD h b) = true

theorem Dk.refl (nx : Nat) (h : AV) : Dk nx h h := fun _ _ hl => hl
theorem Dk.trans {nx nx' : Nat} {h h1 h2 : AV} (a : Dk nx h h1) (b : Dk nx' h1 h2) (hle : nx ≤ nx') : Dk nx h h2 := fun c hc hl => a c hc (b c (by omega) hl)
theorem HS.dkPut (H : HS σ h nx w0 B w) {b : Nat} {x : AV} {p : Pl} (hb : σ b = some p) (hl : live (cget HD h b) = true) : Dk nx h (cput HD h b x) := fun c hc hlc => by
  have := H.nxle
  rw [cget_cput HD h b c x (H.lt hb) (by omega)] at hlc
  by_cases hcb : c = b
  · rw [hcb]; exact hl
  · rw [if_neg hcb] at hlc; exact hlc
theorem dkNew {x : AV} (hnx : nx < 2 ^ HD) : Dk nx h (cput HD h nx x) := fun c hc hlc => by
  rw [cget_cput HD h nx c x hnx (by omega), if_neg (by omega)] at hlc; exact hlc
theorem HS.dkKill (H : HS σ h nx w0 B w) {b : Nat} {p : Pl} (hb : σ b = some p) : Dk nx h (cput HD h b .dead) := fun c hc hlc => by
  have := H.nxle
  rw [cget_cput HD h b c .dead (H.lt hb) (by omega)] at hlc
  by_cases hcb : c = b
  · rw [if_pos hcb] at hlc; simp [live] at hlc
  · rw [if_neg hcb] at hlc; exact hlc

/-- What comes of an operation that changes memory. -/
def EffOk (P : Program) (σ : Sg) (h : AV) (nx : Nat) (w0 : World) (B : Fr) (w : World) (s : Sem Value) (a h' : AV) (nx' : Nat) : Prop :=
  ∃ σ' v w', SubX nx σ σ' ∧ Dk nx h h' ∧ nx ≤ nx' ∧ s.run P w = .ok v w' ∧ Rel σ' a v ∧ HS σ' h' nx' w0 B w'

theorem Sub.refl (σ : Sg) : Sub σ σ := fun _ _ h => h
theorem Sub.trans {σ σ' σ'' : Sg} (h : Sub σ σ') (h' : Sub σ' σ'') : Sub σ σ'' := fun b p hb => h' b p (h b p hb)

theorem RowRel.cat {n m : Nat} {s u : AV} {cs ds rest : Array Value} (h1 : RowRel σ n s cs) (h2 : RowRel σ m u ds) : ∀ i, i < n + m → ∃ v, (cs ++ ds ++ rest)[i]? = some v ∧ one v = true ∧ Rel σ (cget (lg (n + m)) (catA n s m u) i) v := by
  intro i hi
  rw [cget_catA hi]
  by_cases hin : i < n
  · rw [if_pos hin]
    have hlt : i < cs.size := by rw [h1.1]; exact hin
    have hg : cs[i]? = some cs[i] := Array.getElem?_eq_getElem hlt
    refine ⟨cs[i], ?_, h1.2.1 i _ hg, h1.2.2 i _ hg⟩
    rw [Array.append_assoc, Array.getElem?_append_left hlt]; exact hg
  · rw [if_neg hin]
    have hlt : i - n < ds.size := by rw [h2.1]; omega
    have hg : ds[i - n]? = some ds[i - n] := Array.getElem?_eq_getElem hlt
    refine ⟨ds[i - n], ?_, h2.2.1 _ _ hg, h2.2.2 _ _ hg⟩
    rw [Array.append_assoc, Array.getElem?_append_right (by rw [h1.1]; omega), h1.1, Array.getElem?_append_left hlt]; exact hg

theorem zeroCells_size (z : Array Value) (n : Nat) : (Builtin.zeroCells z n).size = n * z.size := by simp [Builtin.zeroCells]

set_option maxHeartbeats 1000000 in
theorem aappend_ok {t t2 e oty : TypeId} {x y a h' : AV} {nx' : Nat} {xv yv : Value} (H : HS σ h nx w0 B w) (hu : P.underlying t = some (.slice e)) (hx : Rel σ x xv) (hy : Rel σ y yv) (ha : aappend P e t2 h nx x y = some (a, h', nx')) :
    EffOk P σ h nx w0 B w (Builtin.append_ #[t, t2] oty #[xv, yv]) a h' nx' := by
  unfold aappend at ha
  split at ha
  · rename_i inf d2 m hinf hu2 hlen
    cases hc0 : (isI d2 || (Nat.beq inf.size 0 || Nat.ble (2 ^ HD) nx)) with
    | true => simp [hc0] at ha
    | false =>
      simp only [hc0, cond_false] at ha
      simp only [Bool.or_eq_false_iff] at hc0
      obtain ⟨hd2, hsz0', hnx'⟩ := hc0
      have hsz0 : inf.size ≠ 0 := fun e => by rw [beqn_iff.2 e] at hsz0'; cases hsz0'
      have hnx : nx < 2 ^ HD := by
        apply Nat.lt_of_not_le
        intro hh; rw [ble_iff.2 hh] at hnx'; cases hnx'
      split at ha
      · rename_i u zn zs hfirst hzero
        cases hzn : Nat.beq zn inf.size with
        | false => simp [hzn] at ha
        | true =>
        simp only [hzn, cond_true] at ha
        have hzn' := beqn_iff.1 hzn
        have hbad : zeroA P e ≠ .bad := fun hb => by rw [hb] at hzero; simp [rowA, scalarA] at hzero
        obtain ⟨z, hzv, hzr⟩ := zeroA_ok (P := P) (t := e) rfl hbad σ
        have hzrow := rowA_ok hzr hzero
        have hz : inf.zero = some z := by rw [hinf] at hzv; exact hzv
        have hl := lenA_ok (P := P) (w := w) hy hlen
        obtain ⟨new, hf, hnew⟩ := firstA_ok (P := P) H hy hlen (Nat.le_refl m) hfirst
        split at ha
        · -- onto nil
          cases hx
          cases hm : Nat.beq m 0 with
          | true =>
            have := beqn_iff.1 hm
            subst this
            simp only [hm, cond_true, Option.some.injEq, Prod.mk.injEq] at ha
            obtain ⟨rfl, rfl, rfl⟩ := ha
            exact ⟨σ, _, w, SubX.refl nx σ, Dk.refl nx h, Nat.le_refl _, run_append_nil0 hu hu2 hd2 hinf hl (hf w rfl), .nils, H⟩
          | false =>
            have hm0 : m ≠ 0 := fun e => by rw [beqn_iff.2 e] at hm; cases hm
            simp only [hm, cond_false] at ha
            cases hb : (Nat.ble (m * inf.bytes) 140737488355328 && Nat.ble m 9223372036854775807) with
            | false => simp [hb] at ha
            | true =>
              simp only [hb, cond_true, Option.some.injEq, Prod.mk.injEq] at ha
              obtain ⟨rfl, rfl, rfl⟩ := ha
              simp only [Bool.and_eq_true] at hb
              have e1 := ble_iff.1 hb.1
              have e2 := ble_iff.1 hb.2
              have hrun := run_append_out (P := P) (w := w) (oty := oty) (base := none) (n := 0) (cap := 0) (old := #[]) hu hu2 hd2 hinf hz hl hf (fun w1 _ => rfl) (by omega) (by omega) (growslice_fits (by omega) (by rw [Nat.zero_add]; exact e1))
              have hge := drawnCap_ge w (0 + m) 0 e
              generalize drawnCap w (0 + m) 0 e = cp at hrun hge
              rw [Nat.zero_add] at hrun hge
              have hcs : (#[] ++ new ++ Builtin.zeroCells z.cells (cp - m)).size = cp * inf.size := by
                simp only [Array.size_append, zeroCells_size, hzrow.1, hzn', hnew.1]
                simp only [List.size_toArray, List.length_nil, Nat.zero_add]
                rw [← Nat.add_mul]; congr 1; omega
              refine ⟨ext σ nx (w.heap.size, 0, (#[] ++ new ++ Builtin.zeroCells z.cells (cp - m)).size), _, _, H.subX _, dkNew hnx, Nat.le_succ _, hrun, ?_, ?_⟩
              · refine .sl _ _ _ _ _ w.heap.size 0 (#[] ++ new ++ Builtin.zeroCells z.cells (cp - m)).size 0 _ (by simp [ext]) (Nat.le_refl _) hge (fun _ => rfl) ?_
                rw [hcs, Nat.zero_add]; exact Nat.le_refl _
              · refine H.drew.row hnx (by rw [even_half]; rfl) (fun h => by omega) rfl rfl rfl ?_ (calm0 _) (fun i hi => ?_)
                · rw [hcs]
                  exact Nat.mul_le_mul_right _ hge
                · obtain ⟨v, g1, g2, g3⟩ := hnew.all i hi
                  refine ⟨v, ?_, g2, g3⟩
                  rw [Array.empty_append, Array.getElem?_append_left (by rw [hnew.1]; exact hi)]; exact g1
        · rename_i b off len lb sz
          cases hx with
          | sl _ _ _ _ _ r base size o cap hs q1 q2 q3 q4 =>
          cases hm : Nat.beq m 0 with
          | true =>
            have := beqn_iff.1 hm
            subst this
            simp only [hm, cond_true, Option.some.injEq, Prod.mk.injEq] at ha
            obtain ⟨rfl, rfl, rfl⟩ := ha
            have hn0 : new = #[] := Array.eq_empty_of_size_eq_zero (by rw [hnew.1, Nat.zero_mul])
            subst hn0
            exact ⟨σ, _, w, SubX.refl nx σ, Dk.refl nx h, Nat.le_refl _, run_append_in hu hu2 hd2 hinf hl (hf w rfl) (by omega) rfl, .sl _ _ _ _ _ r base size o cap hs q1 q2 q3 q4, H⟩
          | false =>
          simp only [hm, cond_false] at ha
          split at ha
          · rename_i ety n t hc
            cases hb0 : (Nat.beq sz inf.size && Nat.beq (ety / 2) e) with
            | false => simp [hb0] at ha
            | true =>
              simp only [hb0, cond_true] at ha
              simp only [Bool.and_eq_true] at hb0
              have e0 := beqn_iff.1 hb0.1
              have e0' := beqn_iff.1 hb0.2
              subst e0; subst e0'
              cases hb1 : (Nat.ble (len + m) lb && !(Nat.beq lb 0)) with
              | true =>
                simp only [hb1, cond_true] at ha
                simp only [Bool.and_eq_true, Bool.not_eq_true'] at hb1
                have e1 := ble_iff.1 hb1.1
                have e2 : lb ≠ 0 := fun e => by rw [beqn_iff.2 e] at hb1; simp at hb1
                have e3 := q3 e2
                cases hb2 : Nat.ble (off + (len + m) * inf.size) n with
                | false => simp [hb2] at ha
                | true =>
                  simp only [hb2, cond_true, Option.some.injEq, Prod.mk.injEq] at ha
                  obtain ⟨rfl, rfl, rfl⟩ := ha
                  have e4 := ble_iff.1 hb2
                  have e5 : off + len * inf.size + m * inf.size ≤ n := by rw [Nat.add_mul] at e4; omega
                  obtain ⟨w', g1, g2⟩ := H.write (P := P) hs hc hnew e5
                  have g1' : (storeCells ⟨r, o + len * inf.size, none⟩ new.toList 0).run P w = .ok () w' := by
                    rw [e3, Nat.add_assoc]; exact g1
                  refine ⟨σ, _, w', SubX.refl nx σ, H.dkPut hs (by rw [hc]; rfl), Nat.le_refl _, run_append_in hu hu2 hd2 hinf hl (hf w rfl) (by omega) g1', .sl _ _ _ _ _ r base size o cap hs e1 q2 q3 q4, g2⟩
              | false =>
                simp only [hb1, cond_false] at ha
                cases hnr : noRoom ety off len m lb inf.size n with
                | true =>
                  simp only [hnr, cond_true] at ha
                  cases hb2 : (Nat.ble ((len + m) * inf.bytes) 140737488355328 && (Nat.ble (len + m) 9223372036854775807 && Nat.ble (off + len * inf.size) n)) with
                  | false => simp [hb2] at ha
                  | true =>
                  simp only [hb2, cond_true, Option.some.injEq, Prod.mk.injEq] at ha
                  obtain ⟨rfl, rfl, rfl⟩ := ha
                  simp only [Bool.and_eq_true] at hb2
                  have e1 := ble_iff.1 hb2.1
                  have e2 := ble_iff.1 hb2.2.1
                  have e4 := ble_iff.1 hb2.2.2
                  obtain ⟨cs, fr, h1, h2, h3, h4, h5⟩ := H.cellsT hs hc (.inl rfl)
                  obtain ⟨h6, h7⟩ := h5 rfl
                  have hn := lg_le n
                  have hmul : len * inf.size ≤ cap * inf.size := Nat.mul_le_mul_right _ (by omega)
                  have hroom : ¬ len + m ≤ cap := fun hle => by
                    have hx : (len + m) * inf.size ≤ cap * inf.size := Nat.mul_le_mul_right _ hle
                    unfold noRoom at hnr
                    simp only [Bool.and_eq_true] at hnr
                    have k1 := h3.2.2 (beqn_iff.1 hnr.1)
                    have k2 := blt_iff.1 hnr.2
                    cases hl0 : Nat.beq lb 0 with
                    | true => simp only [hl0, cond_true] at k2; omega
                    | false =>
                      simp only [hl0, cond_false] at k2
                      have k3 := q3 (fun e => by rw [beqn_iff.2 e] at hl0; cases hl0)
                      omega
                  -- the old cells
                  have hold : RowRel σ (len * inf.size) (crow (lg n) t off (len * inf.size)) (cs.extract o (o + len * inf.size)) := by
                    have hsz : (cs.extract o (o + len * inf.size)).size = len * inf.size := by simp; omega
                    by_cases hl0 : lb = 0
                    · have : len = 0 := by omega
                      subst this
                      refine ⟨by simpa using hsz, fun i v hv => ?_, fun i v hv => ?_⟩ <;>
                      · have := (Array.getElem?_eq_some_iff.1 hv).1
                        rw [hsz] at this; omega
                    · have e3 := q3 hl0
                      have key : ∀ i v, (cs.extract o (o + len * inf.size))[i]? = some v → one v = true ∧ Rel σ (cget (lg (len * inf.size)) (crow (lg n) t off (len * inf.size)) i) v := fun i v hv => by
                        have hi : i < len * inf.size := by rw [← hsz]; exact (Array.getElem?_eq_some_iff.1 hv).1
                        obtain ⟨u', g1, g2, g3⟩ := h4 (off + i) (by omega)
                        rw [Array.getElem?_extract, if_pos (by omega), show o + i = base + (off + i) by omega, g1] at hv
                        simp only [Option.some.injEq] at hv
                        subst hv
                        rw [cget_crow (by omega) hi]
                        exact ⟨g2, g3⟩
                      exact ⟨hsz, fun i v hv => (key i v hv).1, fun i v hv => (key i v hv).2⟩
                  have hfold : ∀ w1 : World, w1.heap = w.heap → (Builtin.firstCells inf.size len (.slice (some ⟨r, o, none⟩) len cap)).run P w1 = .ok (cs.extract o (o + len * inf.size)) w1 := fun w1 hw1 => by
                    simp only [Builtin.firstCells]
                    exact load_cells (by rw [hw1]; exact h1) (by omega)
                  have houtside := hroom
                  have hrun := run_append_out (P := P) (w := w) (oty := oty) (base := some ⟨r, o, none⟩) (n := len) (cap := cap) hu hu2 hd2 hinf hz hl hf hfold hroom e2 (growslice_fits (by omega) e1)
                  have hge := drawnCap_ge w (len + m) cap (ety / 2)
                  let cs' := cs.extract o (o + len * inf.size) ++ new ++ Builtin.zeroCells z.cells (drawnCap w (len + m) cap (ety / 2) - (len + m))
                  have hcs : cs'.size = drawnCap w (len + m) cap (ety / 2) * inf.size := by
                    simp only [cs', Array.size_append, zeroCells_size, hzrow.1, hzn', hnew.1, hold.1]
                    rw [← Nat.add_mul, ← Nat.add_mul]; congr 1; omega
                  refine ⟨ext σ nx (w.heap.size, 0, cs'.size), _, _, H.subX _, dkNew hnx, Nat.le_succ _, hrun, .sl _ _ _ _ _ w.heap.size 0 cs'.size 0 _ (by simp [ext]) (Nat.le_refl _) hge (fun _ => rfl) (by rw [hcs]; omega), ?_⟩
                  refine H.drew.row hnx (by rw [even_half]; rfl) (fun h => by omega) rfl rfl rfl ?_ (calm0 _) (fun i hi => ?_)
                  · show (len + m) * inf.size ≤ cs'.size
                    rw [hcs]
                    exact Nat.mul_le_mul_right _ hge
                  · have hadd : len * inf.size + m * inf.size = (len + m) * inf.size := by rw [Nat.add_mul]
                    rw [← hadd] at hi ⊢
                    exact hold.cat hnew i hi
                | false =>
                simp only [hnr, cond_false] at ha
                cases hb2 : (Nat.ble ((len + m) * inf.bytes) 140737488355328 && (Nat.ble (len + m) 9223372036854775807 && (Nat.ble (off + len * inf.size) n && (Nat.beq off 0 && !(Nat.beq lb 0))))) with
                | false => simp [hb2] at ha
                | true =>
                  simp only [hb2, cond_true, Option.some.injEq, Prod.mk.injEq] at ha
                  obtain ⟨rfl, rfl, rfl⟩ := ha
                  simp only [Bool.and_eq_true, Bool.not_eq_true'] at hb2
                  have e1 := ble_iff.1 hb2.1
                  have e2 := ble_iff.1 hb2.2.1
                  have e4 := ble_iff.1 hb2.2.2.1
                  have e6 := beqn_iff.1 hb2.2.2.2.1
                  have e7 : lb ≠ 0 := fun e => by rw [beqn_iff.2 e] at hb2; simp at hb2
                  have e8 := q3 e7
                  obtain ⟨cs, fr, h1, h2, h3, h4, h5⟩ := H.cellsT hs hc (.inl rfl)
                  obtain ⟨h6, h7⟩ := h5 rfl
                  have hn := lg_le n
                  have hmul : len * inf.size ≤ cap * inf.size := Nat.mul_le_mul_right _ (by omega)
                  -- the old cells
                  have hold : RowRel σ (len * inf.size) (crow (lg n) t off (len * inf.size)) (cs.extract o (o + len * inf.size)) := by
                    have hsz : (cs.extract o (o + len * inf.size)).size = len * inf.size := by simp; omega
                    by_cases hl0 : lb = 0
                    · have : len = 0 := by omega
                      subst this
                      refine ⟨by simpa using hsz, fun i v hv => ?_, fun i v hv => ?_⟩ <;>
                      · have := (Array.getElem?_eq_some_iff.1 hv).1
                        rw [hsz] at this; omega
                    · have e3 := q3 hl0
                      have key : ∀ i v, (cs.extract o (o + len * inf.size))[i]? = some v → one v = true ∧ Rel σ (cget (lg (len * inf.size)) (crow (lg n) t off (len * inf.size)) i) v := fun i v hv => by
                        have hi : i < len * inf.size := by rw [← hsz]; exact (Array.getElem?_eq_some_iff.1 hv).1
                        obtain ⟨u', g1, g2, g3⟩ := h4 (off + i) (by omega)
                        rw [Array.getElem?_extract, if_pos (by omega), show o + i = base + (off + i) by omega, g1] at hv
                        simp only [Option.some.injEq] at hv
                        subst hv
                        rw [cget_crow (by omega) hi]
                        exact ⟨g2, g3⟩
                      exact ⟨hsz, fun i v hv => (key i v hv).1, fun i v hv => (key i v hv).2⟩
                  have hfold : ∀ w1 : World, w1.heap = w.heap → (Builtin.firstCells inf.size len (.slice (some ⟨r, o, none⟩) len cap)).run P w1 = .ok (cs.extract o (o + len * inf.size)) w1 := fun w1 hw1 => by
                    simp only [Builtin.firstCells]
                    exact load_cells (by rw [hw1]; exact h1) (by omega)
                  by_cases hroom : len + m ≤ cap
                  · -- in place
                    have hmul2 : (len + m) * inf.size ≤ cap * inf.size := Nat.mul_le_mul_right _ hroom
                    have hadd : len * inf.size + m * inf.size = (len + m) * inf.size := by rw [Nat.add_mul]
                    have hnl : new.toList.length = m * inf.size := by simpa using hnew.1
                    obtain ⟨w', hr, hw, g1, g2, g3⟩ := run_storeCells (P := P) (off := o + len * inf.size) new.toList 0 cs w h1 (by rw [h2]; exact h6) (by rw [hnl]; omega) (fun v hm => by
                      obtain ⟨i, hi⟩ := List.mem_iff_getElem?.1 hm
                      exact hnew.2.1 i v (by simpa using hi))
                    have hrun := run_append_in (P := P) (w := w) (oty := oty) (o := o) hu hu2 hd2 hinf hl (hf w rfl) hroom hr
                    obtain ⟨s1, s2⟩ := spl_get new.toList cs (o + len * inf.size + 0) (by rw [hnl]; omega)
                    have hb' : w'.heap[r]? = some (.cells (K.spl cs (o + len * inf.size + 0) new.toList) (ety / 2) fr) := by rw [hw]; simp [lt_of_get h1]
                    have hsub := H.sub_ext (r, o, size)
                    refine ⟨ext σ nx (r, o, size), _, w', H.subX _, (H.dkKill hs).trans (dkNew hnx) (Nat.le_refl _), Nat.le_succ _, hrun, .sl _ _ _ _ _ r o size o cap (by simp [ext]) (Nat.le_refl _) hroom (fun _ => rfl) q4, ?_⟩
                    refine H.rename hnx (q := (r, o, size)) hs (by rw [hc]; rfl) h7 rfl hw g1 g2 g3 ⟨r, o, size, _, fr, ety / 2, by simp [ext], hb', by rw [s1]; exact h2, ⟨by omega, by omega, fun h => by omega⟩, fun i hi => ?_, fun _ => ⟨h6, h7⟩, fun _ => (even_half _).symm⟩
                    rw [← hadd] at hi ⊢
                    rw [cget_catA hi, s2 (o + i), hnl]
                    by_cases hin : i < len * inf.size
                    · rw [if_pos hin, if_neg (by omega)]
                      obtain ⟨v, f1, f2, f3⟩ := hold.all i hin
                      refine ⟨v, ?_, f2, f3.mono hsub⟩
                      rw [Array.getElem?_extract] at f1
                      split at f1
                      · exact f1
                      · cases f1
                    · rw [if_neg hin, if_pos (by omega)]
                      obtain ⟨v, f1, f2, f3⟩ := hnew.all (i - len * inf.size) (by omega)
                      refine ⟨v, ?_, f2, f3.mono hsub⟩
                      rw [show o + i - (o + len * inf.size + 0) = i - len * inf.size by omega]
                      simpa using f1
                  · -- elsewhere
                    have hrun := run_append_out (P := P) (w := w) (oty := oty) (base := some ⟨r, o, none⟩) (n := len) (cap := cap) hu hu2 hd2 hinf hz hl hf hfold hroom e2 (growslice_fits (by omega) e1)
                    have hge := drawnCap_ge w (len + m) cap (ety / 2)
                    let cs' := cs.extract o (o + len * inf.size) ++ new ++ Builtin.zeroCells z.cells (drawnCap w (len + m) cap (ety / 2) - (len + m))
                    have hcs : cs'.size = drawnCap w (len + m) cap (ety / 2) * inf.size := by
                      simp only [cs', Array.size_append, zeroCells_size, hzrow.1, hzn', hnew.1, hold.1]
                      rw [← Nat.add_mul, ← Nat.add_mul]; congr 1; omega
                    have HK := H.kill (H.lt hs)
                    refine ⟨ext σ nx (w.heap.size, 0, cs'.size), _, _, H.subX _, (H.dkKill hs).trans (dkNew hnx) (Nat.le_refl _), Nat.le_succ _, hrun, .sl _ _ _ _ _ w.heap.size 0 cs'.size 0 _ (by simp [ext]) (Nat.le_refl _) hge (fun _ => rfl) (by rw [hcs]; omega), ?_⟩
                    refine HK.drew.row hnx (by rw [even_half]; rfl) (fun h => by omega) rfl rfl rfl ?_ (calm0 _) (fun i hi => ?_)
                    · show (len + m) * inf.size ≤ cs'.size
                      rw [hcs]
                      exact Nat.mul_le_mul_right _ hge
                    · have hadd : len * inf.size + m * inf.size = (len + m) * inf.size := by rw [Nat.add_mul]
                      rw [← hadd] at hi ⊢
                      exact hold.cat hnew i hi
          · cases ha
        · cases ha
      · cases ha
  · cases ha

end
end I
end Go.Proofs.YtpaekplhcjleaaaGreatDoor
