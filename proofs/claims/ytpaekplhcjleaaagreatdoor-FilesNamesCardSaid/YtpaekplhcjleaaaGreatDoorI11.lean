import Derived.Test.YtpaekplhcjleaaaGreatDoorI10
import Derived.Lib.UnsafeStr
namespace Go.Proofs.YtpaekplhcjleaaaGreatDoor
namespace I
open K (one aggB run_underlying' run_sizeOf' add_none run_v cell_cells)
set_option linter.unusedVariables false

/-! ### A row grows -/
def grow : Nat → Nat → AV → AV
  | 0, _, t => t
  | k + 1, d, t => grow k (d + 1) (.node t (unid d .undef))

theorem cget_grow : ∀ (k d : Nat) (t : AV) (i : Nat), i < 2 ^ d → cget (d + k) (grow k d t) i = cget d t i
  | 0, d, t, i, _ => rfl
  | k + 1, d, t, i, hi => by
    have hp : 2 ^ (d + 1) = 2 ^ d + 2 ^ d := by rw [Nat.pow_succ]; omega
    have ih := cget_grow k (d + 1) (.node t (unid d .undef)) i (by omega)
    rw [show d + (k + 1) = (d + 1) + k by omega]
    rw [grow, ih, cget_kids, blt_iff.2 hi]; rfl

/-- n cells of s, then m cells of u. -/
def catA (n : Nat) (s : AV) (m : Nat) (u : AV) : AV := cblit (lg (n + m)) (grow (lg (n + m) - lg n) (lg n) s) n m u

theorem lg_mono {n m : Nat} (h : n ≤ m) : lg n ≤ lg m := by
  unfold lg
  cases h1 : Nat.ble n 1 with
  | true => simp
  | false =>
    have hn : ¬ n ≤ 1 := fun hh => by rw [ble_iff.2 hh] at h1; cases h1
    have hm : Nat.ble m 1 = false := by
      cases h2 : Nat.ble m 1 with
      | false => rfl
      | true => have := ble_iff.1 h2; omega
    rw [hm]
    simp only [cond_false, Nat.add_le_add_iff_right]
    rw [Nat.le_log2 (by omega)]
    exact Nat.le_trans (Nat.log2_self_le (by omega)) (by omega)

theorem cget_catA {n m : Nat} {s u : AV} {i : Nat} (hi : i < n + m) : cget (lg (n + m)) (catA n s m u) i = if i < n then cget (lg n) s i else cget (lg m) u (i - n) := by
  have h1 := lg_le (n + m)
  have h2 := lg_le n
  unfold catA
  rw [cget_cblit (by omega) (by omega)]
  have hd : lg (n + m) = lg n + (lg (n + m) - lg n) := by have := lg_mono (show n ≤ n + m by omega); omega
  by_cases hin : i < n
  · rw [if_neg (by omega), if_pos hin]
    conv => lhs; rw [hd]
    rw [show lg n + (lg (n + m) - lg n) - lg n = lg (n + m) - lg n by omega]
    exact cget_grow _ _ _ _ (by omega)
  · rw [if_pos (by omega), if_neg hin]

section
variable {P : Program} {σ : Sg} {h : AV} {nx : Nat} {w0 w : World} {B : Fr}

/-! ### Stores of rows -/
theorem spl_get : ∀ (vs : List Value) (cs : Array Value) (off : Nat), off + vs.length ≤ cs.size → (K.spl cs off vs).size = cs.size ∧ ∀ j, (K.spl cs off vs)[j]? = if off ≤ j ∧ j < off + vs.length then vs[j - off]? else cs[j]?
  | [], cs, off, _ => ⟨rfl, fun j => by rw [if_neg (by simp)]; rfl⟩
  | v :: vs, cs, off, hl => by
    simp only [List.length_cons] at hl
    obtain ⟨h1, h2⟩ := spl_get vs (cs.setIfInBounds off v) (off + 1) (by simp; omega)
    refine ⟨by rw [K.spl, h1]; simp, fun j => ?_⟩
    rw [K.spl, h2 j]
    by_cases hjo : j = off
    · subst hjo
      rw [if_neg (by omega), if_pos (by simp), Array.getElem?_setIfInBounds]
      simp; omega
    · by_cases hin : off + 1 ≤ j ∧ j < off + 1 + vs.length
      · rw [if_pos hin, if_pos (by simp; omega), show j - off = (j - (off + 1)) + 1 by omega, List.getElem?_cons_succ]
      · rw [if_neg hin, if_neg (by simp; omega), Array.getElem?_setIfInBounds, if_neg (by omega)]

theorem run_storeCells {b off : Nat} {t : TypeId} {fr : Nat × Nat} : ∀ (vs : List Value) (i : Nat) (cs : Array Value) (w : World), w.heap[b]? = some (.cells cs t fr) → Calm fr cs.size → off + i + vs.length ≤ cs.size → (∀ v ∈ vs, one v = true) →
    ∃ w', (storeCells ⟨b, off, none⟩ vs i).run P w = .ok () w' ∧ w'.heap = w.heap.setIfInBounds b (.cells (K.spl cs (off + i) vs) t fr) ∧ w'.os = w.os ∧ w'.tape = w.tape ∧ w'.output = w.output
  | [], i, cs, w, hb, _, _, _ => by
    refine ⟨w, rfl, ?_, rfl, rfl, rfl⟩
    simp only [K.spl]
    apply Array.ext_getElem?
    intro k
    have hlt := lt_of_get hb
    by_cases hk : b = k
    · subst hk; rw [hb]; simp [hlt]
    · simp [hk]
  | v :: vs, i, cs, w, hb, hcm, hl, h1 => by
    have hi : off + i < cs.size := by simp at hl; omega
    have hc : w.cell? ⟨b, off + i, none⟩ = some (cs[off + i]) := by rw [cell_cells hb]; exact Array.getElem?_eq_getElem hi
    have hfz : w.frozen? ⟨b, off + i, none⟩ = false := by
      simp only [World.frozen?, hb]
      exact hcm _ hi
    have hv1 := h1 v (List.mem_cons_self ..)
    have hst : (store (Addr.add ⟨b, off, none⟩ i) v).run P w = .ok () (w.setCell ⟨b, off + i, none⟩ v) := by
      rw [add_none]
      unfold store
      cases v <;> simp [one] at hv1 <;> simp [Sem.run, hc, hfz]
    have hh := K.setCell_heap (off := off + i) (v := v) hb
    have hb' : (w.setCell ⟨b, off + i, none⟩ v).heap[b]? = some (.cells (cs.setIfInBounds (off + i) v) t fr) := by rw [hh]; simp [lt_of_get hb]
    obtain ⟨w', hr, hw, h2, h3, h4⟩ := run_storeCells (off := off) vs (i + 1) _ _ hb' (by simpa using hcm) (by simp at hl ⊢; omega) (fun x hx => h1 x (List.mem_cons_of_mem _ hx))
    refine ⟨w', ?_, ?_, h2, h3, h4⟩
    · unfold storeCells
      simp only [Sem.run_bind, hst, Result.andThen_ok, hr]
    · rw [hw, hh]
      simp only [K.spl]
      apply Array.ext_getElem?
      intro k
      by_cases hk : b = k
      · subst hk; simp [lt_of_get hb, Nat.add_assoc]
      · simp [hk]

/-- A row of m cells written into a block. -/
theorem HS.write (H : HS σ h nx w0 B w) {b r base size ty n off m : Nat} {t s : AV} {vs : Array Value} (hs : σ b = some (r, base, size)) (hc : cget HD h b = .cells ty n false t) (hv : RowRel σ m s vs) (ho : off + m ≤ n) :
    ∃ w', (storeCells ⟨r, base + off, none⟩ vs.toList 0).run P w = .ok () w' ∧ HS σ (cput HD h b (.cells ty n false (cblit (lg n) t off m s))) nx w0 B w' := by
  obtain ⟨cs, fr, h1, h2, h3, h4, h5⟩ := H.cellsT hs hc (.inl rfl)
  obtain ⟨h6, h7⟩ := h5 rfl
  have hlen : vs.toList.length = m := by simpa using hv.1
  obtain ⟨w', hr, hw, g1, g2, g3⟩ := run_storeCells (P := P) (off := base + off) vs.toList 0 cs w h1 (by rw [h2]; exact h6) (by rw [hlen]; omega) (fun v hm => by
    obtain ⟨i, hi⟩ := List.mem_iff_getElem?.1 hm
    exact hv.2.1 i v (by simpa using hi))
  refine ⟨w', hr, ?_⟩
  obtain ⟨e1, e2⟩ := spl_get vs.toList cs (base + off + 0) (by rw [hlen]; omega)
  have hn := lg_le n
  have hb' : w'.heap[r]? = some (.cells (K.spl cs (base + off + 0) vs.toList) (ty / 2) fr) := by rw [hw]; simp [lt_of_get h1]
  refine H.upd hs (by rw [hc]; rfl) h7 hw g1 g2 g3 ⟨r, base, size, _, fr, ty / 2, hs, hb', by rw [e1]; exact h2, h3, fun i hi => ?_, fun _ => ⟨h6, h7⟩, fun _ => rfl⟩
  rw [e2 (base + i), hlen, cget_cblit (by omega) (by omega)]
  by_cases hin : off ≤ i ∧ i < off + m
  · rw [if_pos (by omega), if_pos hin]
    have hlt : i - off < vs.size := by rw [hv.1]; omega
    have hg : vs[i - off]? = some vs[i - off] := Array.getElem?_eq_getElem hlt
    refine ⟨_, ?_, hv.2.1 _ _ hg, hv.2.2 _ _ hg⟩
    rw [show base + i - (base + off + 0) = i - off by omega]
    simp
  · rw [if_neg (by omega), if_neg hin]
    exact h4 i hi

/-! ### Elements of a slice or a text -/
def lenA : AV → Option Nat
  | .sl _ _ n _ _ => some n
  | .nils => some 0
  | .str n _ => some n
  | _ => none

def firstA (h : AV) (sz k : Nat) (y : AV) : Option AV :=
  bif Nat.beq k 0 then some .undef else
  match y with
  | .sl b off len lb sz' => match cget HD h b with
    | .cells _ n _ t => bif Nat.beq sz sz' && (Nat.ble (off + k * sz) n && !(Nat.beq lb 0)) then some (crow (lg n) t off (k * sz)) else none
    | _ => none
  | .str m x => bif Nat.beq sz 1 && Nat.ble k m then some (strN k (x / 256 ^ (m - k))) else none
  | _ => none

theorem lenA_ok {y : AV} {yv : Value} {n : Nat} (hy : Rel σ y yv) (hl : lenA y = some n) : (Builtin.lenOf yv).run P w = .ok n w := by
  cases hy <;> simp only [lenA, Option.some.injEq, reduceCtorEq] at hl
  · subst hl; rename_i hn _; subst hn; rfl
  · subst hl; rfl
  · subst hl; rfl

theorem firstA_ok {sz k n : Nat} {y u : AV} {yv : Value} (H : HS σ h nx w0 B w) (hy : Rel σ y yv) (hl : lenA y = some n) (hk : k ≤ n) (hf : firstA h sz k y = some u) :
    ∃ cs, (∀ w1 : World, w1.heap = w.heap → (Builtin.firstCells sz k yv).run P w1 = .ok cs w1) ∧ RowRel σ (k * sz) u cs := by
  unfold firstA at hf
  cases h0 : Nat.beq k 0 with
  | true =>
    have := beqn_iff.1 h0
    subst this
    simp only [h0, cond_true, Option.some.injEq] at hf
    subst hf
    refine ⟨#[], fun w1 hw1 => ?_, by simp, fun i v hv => by simp at hv, fun i v hv => by simp at hv⟩
    cases hy <;> simp only [lenA, reduceCtorEq] at hl
    · simp [Builtin.firstCells]
    · simp [Builtin.firstCells]
    · simp [Builtin.firstCells, loadCells, loadCellsFrom]
  | false =>
    have hk0 : k ≠ 0 := fun e => by rw [beqn_iff.2 e] at h0; cases h0
    simp only [h0, cond_false] at hf
    split at hf
    · rename_i b off len lb sz'
      cases hy with
      | sl _ _ _ _ _ r base size o cap hs q1 q2 q3 q4 =>
      split at hf
      · rename_i ety m ro t hc
        cases hb : (Nat.beq sz sz' && (Nat.ble (off + k * sz) m && !(Nat.beq lb 0))) with
        | false => simp [hb] at hf
        | true =>
          simp only [hb, cond_true, Option.some.injEq] at hf
          simp only [Bool.and_eq_true, Bool.not_eq_true'] at hb
          have e1 := ble_iff.1 hb.2.1
          have e2 : lb ≠ 0 := fun e => by rw [beqn_iff.2 e] at hb; simp at hb
          have e3 := q3 e2
          obtain ⟨cs, fr, tt, h1, h2, h3, h4, h5⟩ := H.cells hs hc
          subst hf
          have hm := lg_le m
          have hex : ∀ i, i < k * sz → ∃ v, (cs.extract o (o + k * sz))[i]? = some v ∧ one v = true ∧ Rel σ (cget (lg (k * sz)) (crow (lg m) t off (k * sz)) i) v := fun i hi => by
            obtain ⟨v, g1, g2, g3⟩ := h4 (off + i) (by omega)
            refine ⟨v, ?_, g2, ?_⟩
            · rw [Array.getElem?_extract, if_pos (by omega), ← g1]; congr 1; omega
            · rw [cget_crow (by omega) hi]; exact g3
          have hsz : (cs.extract o (o + k * sz)).size = k * sz := by simp; omega
          refine ⟨cs.extract o (o + k * sz), fun w1 hw1 => ?_, hsz, fun i v hv => ?_, fun i v hv => ?_⟩
          · have h1' : w1.heap[r]? = some (.cells cs tt fr) := by rw [hw1]; exact h1
            simp only [Builtin.firstCells]
            exact load_cells h1' (by omega)
          · have hi : i < k * sz := by rw [← hsz]; exact (Array.getElem?_eq_some_iff.1 hv).1
            obtain ⟨u, g1, g2, g3⟩ := hex i hi
            rw [hv] at g1; simp only [Option.some.injEq] at g1; rw [g1]; exact g2
          · have hi : i < k * sz := by rw [← hsz]; exact (Array.getElem?_eq_some_iff.1 hv).1
            obtain ⟨u, g1, g2, g3⟩ := hex i hi
            rw [hv] at g1; simp only [Option.some.injEq] at g1; rw [g1]; exact g3
      · cases hf
    · rename_i m x
      cases hy with
      | str t _ _ hn hx =>
      cases hb : (Nat.beq sz 1 && Nat.ble k m) with
      | false => simp [hb] at hf
      | true =>
        simp only [hb, cond_true, Option.some.injEq] at hf
        simp only [Bool.and_eq_true] at hb
        have e1 := beqn_iff.1 hb.1
        have e2 := ble_iff.1 hb.2
        subst e1; subst hn; subst hx; subst hf
        have hd : ((t.extract 0 k).data.map fun b => Value.int .u8 b.toNat).size = k := by
          simp [ByteArray.extract, ByteArray.copySlice]
          show min k t.size = k
          omega
        have hget : ∀ i, i < k → ((t.extract 0 k).data.map fun b => Value.int .u8 b.toNat)[i]? = some (.int .u8 (Int.ofNat (sbyte t.size (val t.data.toList) i))) := fun i hi => by
          have hl : i < t.data.toList.length := by simp; show i < t.size; omega
          have hg := val_get hl
          have hlen : t.data.toList.length = t.size := by simp
          rw [hlen] at hg
          have hi' : i < t.data.size := by show i < t.size; omega
          have hek : (t.extract 0 k).data[i]? = some t.data[i] := by
            simp only [ByteArray.extract, ByteArray.copySlice]
            simp
            rw [Array.getElem?_extract, if_pos (by omega), Nat.zero_add]
            exact Array.getElem?_eq_getElem hi'
          simp only [Array.getElem?_map, hek, Option.map_some, ← hg]
          simp
        refine ⟨(t.extract 0 k).data.map fun b => .int .u8 b.toNat, fun w1 hw1 => rfl, by rw [hd]; omega, fun i v hv => ?_, fun i v hv => ?_⟩
        · have hi : i < k := by rw [← hd]; exact (Array.getElem?_eq_some_iff.1 hv).1
          rw [hget i hi] at hv; simp only [Option.some.injEq] at hv; rw [← hv]; rfl
        · have hi : i < k := by rw [← hd]; exact (Array.getElem?_eq_some_iff.1 hv).1
          rw [hget i hi] at hv; simp only [Option.some.injEq] at hv; rw [← hv, Nat.mul_one, cget_strN hi, sbyte_take e2 hi]; exact .int _ _
    · cases hf

end
end I
end Go.Proofs.YtpaekplhcjleaaaGreatDoor
