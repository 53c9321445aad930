import Derived.Test.YtpaekplhcjleaaaGreatDoorI17
namespace Go.Proofs.YtpaekplhcjleaaaGreatDoor
namespace I
open K (one aggB run_underlying' run_sizeOf' add_none run_v cell_cells)
set_option linter.unusedVariables false

section
variable {σ σ' : Sg} {h h' : AV} {nx nx' : Nat} {w0 w w' : World} {B : Fr}

/-- More real blocks. -/
theorem HS.more (H : HS σ h nx w0 B w) (hk : ∀ k, k < w.heap.size → w'.heap[k]? = w.heap[k]?) (hs : w.heap.size ≤ w'.heap.size) (h1 : w'.os = w.os) (h2 : w'.tape = w.tape) (h3 : w'.output = w.output) : HS σ h nx w0 B w' :=
  ⟨h1.trans H.os, h2.trans H.tape, h3.trans H.output, Nat.le_trans H.size hs, fun k hlt hB => (hk k (Nat.lt_of_lt_of_le hlt H.size)).trans (H.block k hlt hB),
    fun b hb => (H.blk b hb).mono (fun _ _ h => h) (fun p hp hl => hk _ (H.real_lt hp hl)), H.dom, H.nxle, H.dist, H.acc⟩

/-- A name for a place that memory does not know. -/
theorem HS.bind (H : HS σ h nx w0 B w) {b0 : Nat} {p : Pl} (h0 : σ b0 = none) (hlt : b0 < nx) : Sub σ (ext σ b0 p) ∧ HS (ext σ b0 p) h nx w0 B w := by
  have hsub : Sub σ (ext σ b0 p) := fun b q hb => by
    unfold ext
    rw [if_neg (fun e => by rw [e, h0] at hb; cases hb)]; exact hb
  have hnl : live (cget HD h b0) = false := by
    cases hl : live (cget HD h b0) with
    | false => rfl
    | true =>
      obtain ⟨q, hq⟩ := (H.blk b0 (Nat.lt_of_lt_of_le hlt H.nxle)).name hl
      rw [h0] at hq; cases hq
  have hback : ∀ b q, live (cget HD h b) = true → ext σ b0 p b = some q → σ b = some q := fun b q hl hb => by
    unfold ext at hb
    rw [if_neg (fun e => by rw [e, hnl] at hl; cases hl)] at hb; exact hb
  refine ⟨hsub, H.os, H.tape, H.output, H.size, H.block, fun b hb => (H.blk b hb).mono hsub (fun _ _ _ => rfl), fun b q hb => ?_, H.nxle, fun b b' q q' hne hb hb' hl hl' => ?_, fun b q hb hl => ?_⟩
  · unfold ext at hb
    by_cases hbb : b = b0
    · rw [hbb]; exact hlt
    · rw [if_neg hbb] at hb; exact H.dom b q hb
  · exact H.dist b b' q q' hne (hback b q (live_of hl) hb) (hback b' q' hl' hb') hl hl'
  · exact H.acc b q (hback b q hl hb) hl

/-- A block that is laid under a name that has its place. -/
theorem HS.lay (H : HS σ h nx w0 B w) {b0 : Nat} {p : Pl} {x : AV} (hb0 : σ b0 = some p) (hx : BlkRel σ w0 B w b0 x) (hm : w0.heap.size ≤ p.1) (hd : ∀ b q, b ≠ b0 → σ b = some q → live (cget HD h b) = true → q.1 ≠ p.1) :
    HS σ (cput HD h b0 x) nx w0 B w := by
  have hlt := H.lt hb0
  have hget : ∀ c, c < 2 ^ HD → cget HD (cput HD h b0 x) c = if c = b0 then x else cget HD h c := fun c hc => cget_cput HD h b0 c x hlt hc
  refine ⟨H.os, H.tape, H.output, H.size, H.block, fun c hc => ?_, H.dom, H.nxle, fun c c' q q' hne hc hc' hlc hlc' => ?_, fun c q hc hlc => ?_⟩
  · rw [hget c hc]
    by_cases hcb : c = b0
    · rw [if_pos hcb, hcb]; exact hx
    · rw [if_neg hcb]; exact H.blk c hc
  · rw [hget c (H.lt hc)] at hlc
    rw [hget c' (H.lt hc')] at hlc'
    by_cases hcb : c = b0
    · have hcb' : c' ≠ b0 := fun e => hne (hcb.trans e.symm)
      rw [if_neg hcb'] at hlc'
      rw [hcb, hb0] at hc
      simp only [Option.some.injEq] at hc
      rw [← hc]; exact fun e => hd c' q' hcb' hc' hlc' e.symm
    · rw [if_neg hcb] at hlc
      by_cases hcb' : c' = b0
      · rw [hcb', hb0] at hc'
        simp only [Option.some.injEq] at hc'
        rw [← hc']; exact hd c q hcb hc (live_of hlc)
      · rw [if_neg hcb'] at hlc'
        exact H.dist c c' q q' hne hc hc' hlc hlc'
  · rw [hget c (H.lt hc)] at hlc
    by_cases hcb : c = b0
    · rw [hcb, hb0] at hc
      simp only [Option.some.injEq] at hc
      rw [← hc]; exact .inr hm
    · rw [if_neg hcb] at hlc
      exact H.acc c q hc hlc

/-- The real blocks that memory knows. -/
def img (σ : Sg) (h : AV) : Fr := ⟨fun r => ∃ b p, σ b = some p ∧ liveW (cget HD h b) = true ∧ p.1 = r, fun r => ∃ b p, σ b = some p ∧ live (cget HD h b) = true ∧ p.1 = r⟩

theorem HS.mine (H : HS σ h nx w0 B w) {b : Nat} {p : Pl} (hb : σ b = some p) (hl : liveW (cget HD h b) = true) : B.wr p.1 ∨ w0.heap.size ≤ p.1 := (H.blk b (H.lt hb)).wr hl hb

theorem HS.rebase (H : HS σ h nx w0 B w) : HS σ h nx w (img σ h) w :=
  ⟨rfl, rfl, rfl, Nat.le_refl _, fun _ _ _ => rfl, fun b hb => (H.blk b hb).rebase (fun p hp hl => .inl ⟨b, p, hp, hl, rfl⟩), H.dom, H.nxle, H.dist, fun b p hb hl => .inl ⟨b, p, hb, hl, rfl⟩⟩

theorem HS.compose (H : HS σ h nx w0 B w) (H' : HS σ' h' nx' w (img σ h) w') : HS σ' h' nx' w0 B w' := by
  have hwr : ∀ r, ((img σ h).wr r ∨ w.heap.size ≤ r) → (B.wr r ∨ w0.heap.size ≤ r) := by
    rintro r (⟨b, p, hb, hl, rfl⟩ | hr)
    · exact H.mine hb hl
    · exact .inr (Nat.le_trans H.size hr)
  refine ⟨H'.os.trans H.os, H'.tape.trans H.tape, H'.output.trans H.output, Nat.le_trans H.size H'.size, fun k hk hB => ?_, fun b hb => ?_, H'.dom, H'.nxle, H'.dist, fun b p hb hl => ?_⟩
  · rw [H'.block k (Nat.lt_of_lt_of_le hk H.size) (fun hw => by
      rcases hwr k (.inl hw) with h1 | h1
      · exact hB h1
      · omega)]
    exact H.block k hk hB
  · exact (H'.blk b hb).rebase (fun p hp hl => hwr _ ((H'.blk b hb).wr hl hp))
  · rcases H'.acc b p hb hl with ⟨c, q, hc, hlc, hq⟩ | hr
    · rw [← hq]; exact H.acc c q hc hlc
    · exact .inr (Nat.le_trans H.size hr)

theorem HS.skip (H : HS σ h nx w0 B w) (hle : nx ≤ nx') (hm : nx' ≤ 2 ^ HD) : HS σ h nx' w0 B w :=
  ⟨H.os, H.tape, H.output, H.size, H.block, H.blk, fun b p hb => Nat.lt_of_lt_of_le (H.dom b p hb) hle, hm, H.dist, H.acc⟩

end

/-! ### Blocks that are made and not yet laid -/
structure MSim (C : DC) (w0 : World) (B : Fr) (σ : Sg) (h : AV) (nx : Nat) (pt : AV) (w : World) : Prop where
  hs : HS σ h nx w0 B w
  nx : C.nx0 + C.ops.size ≤ nx
  pend : ∀ k, k < C.ops.size → live (cget C.pd pt k) = true → ∃ p, σ (C.nx0 + k) = some p ∧ BlkRel σ w0 B w (C.nx0 + k) (cget C.pd pt k) ∧ w0.heap.size ≤ p.1 ∧ p.1 < w.heap.size ∧ live (cget HD h (C.nx0 + k)) = false ∧ (∀ b q, b ≠ C.nx0 + k → σ b = some q → live (cget HD h b) = true → q.1 ≠ p.1)
  pdist : ∀ k k' p p', k < C.ops.size → k' < C.ops.size → k ≠ k' → live (cget C.pd pt k) = true → live (cget C.pd pt k') = true → σ (C.nx0 + k) = some p → σ (C.nx0 + k') = some p' → p.1 ≠ p'.1

section
variable {C : DC} {w0 w w' : World} {B : Fr} {σ σ' : Sg}

theorem MSim.merge (hpd : C.ops.size ≤ 2 ^ C.pd) : ∀ {l : List Nat} {h : AV} {nx : Nat} {pt : AV}, (∀ j ∈ l, j < C.ops.size) → MSim C w0 B σ h nx pt w → MSim C w0 B σ (merge C.pd C.nx0 l h pt).1 nx (I.merge C.pd C.nx0 l h pt).2 w
  | [], h, nx, pt, _, M => M
  | j :: l, h, nx, pt, hl, M => by
    have hj := hl j (List.mem_cons_self ..)
    simp only [I.merge]
    cases hb : (live (cget C.pd pt j) && Nat.blt j (2 ^ C.pd)) with
    | false => exact MSim.merge hpd (fun k hk => hl k (List.mem_cons_of_mem _ hk)) M
    | true =>
      simp only [Bool.and_eq_true] at hb
      simp only [cond_true]
      refine MSim.merge hpd (fun k hk => hl k (List.mem_cons_of_mem _ hk)) ?_
      obtain ⟨p, p1, p2, p3, p4, p6, p5⟩ := M.pend j hj hb.1
      have hget : ∀ k, k < C.ops.size → cget C.pd (cput C.pd pt j .undef) k = if k = j then .undef else cget C.pd pt k := fun k hk => cget_cput C.pd pt j k .undef (by omega) (by omega)
      have hlive : ∀ k, k < C.ops.size → live (cget C.pd (cput C.pd pt j .undef) k) = true → k ≠ j ∧ live (cget C.pd pt k) = true := fun k hk hlk => by
        rw [hget k hk] at hlk
        by_cases hkj : k = j
        · rw [if_pos hkj] at hlk; simp [live] at hlk
        · rw [if_neg hkj] at hlk; exact ⟨hkj, hlk⟩
      refine ⟨M.hs.lay p1 p2 p3 p5, M.nx, fun k hk hlk => ?_, fun k k' q q' hk hk' hne hlk hlk' hq hq' => ?_⟩
      · obtain ⟨hkj, hlk'⟩ := hlive k hk hlk
        obtain ⟨q, q1, q2, q3, q4, q6, q5⟩ := M.pend k hk hlk'
        rw [hget k hk, if_neg hkj]
        refine ⟨q, q1, q2, q3, q4, by rw [cget_cput HD h (C.nx0 + j) (C.nx0 + k) _ (M.hs.lt p1) (M.hs.lt q1), if_neg (by omega)]; exact q6, fun b u hbk hbu hlb => ?_⟩
        rw [cget_cput HD h (C.nx0 + j) b _ (M.hs.lt p1) (M.hs.lt hbu)] at hlb
        by_cases hbj : b = C.nx0 + j
        · rw [hbj, p1] at hbu
          simp only [Option.some.injEq] at hbu
          rw [← hbu]
          exact M.pdist j k p q hj hk (fun e => hkj e.symm) hb.1 hlk' p1 q1
        · rw [if_neg hbj] at hlb
          exact q5 b u hbk hbu hlb
      · exact M.pdist k k' q q' hk hk' hne (hlive k hk hlk).2 (hlive k' hk' hlk').2 hq hq'

/-- Behind something that keeps to what memory knows. -/
theorem MSim.behind {h h' pt : AV} {nx nx' : Nat} (M : MSim C w0 B σ h nx pt w) (hx : SubX nx σ σ') (hdk : Dk nx h h') (hle : nx ≤ nx') (H' : HS σ' h' nx' w (img σ h) w') : MSim C w0 B σ' h' nx' pt w' := by
  refine ⟨M.hs.compose H', Nat.le_trans M.nx hle, fun k hk hlk => ?_, fun k k' p p' hk hk' hne hlk hlk' hp hp' => ?_⟩
  · obtain ⟨p, p1, p2, p3, p4, p6, p5⟩ := M.pend k hk hlk
    have hsame : w'.heap[p.1]? = w.heap[p.1]? := H'.block p.1 p4 (fun ⟨b, q, hb, hl, he⟩ => by
      by_cases hbk : b = C.nx0 + k
      · rw [hbk] at hl; rw [live_of hl] at p6; cases p6
      · exact p5 b q hbk hb (live_of hl) he)
    refine ⟨p, hx.1 _ _ p1, p2.mono hx.1 (fun q hq _ => by rw [p1] at hq; simp only [Option.some.injEq] at hq; rw [← hq]; exact hsame), p3, Nat.lt_of_lt_of_le p4 H'.size, ?_, fun b q hbk hb hl => ?_⟩
    · cases hl : live (cget HD h' (C.nx0 + k)) with
      | false => rfl
      | true => have := hdk (C.nx0 + k) (by have := M.nx; omega) hl; rw [this] at p6; cases p6
    · rcases H'.acc b q hb hl with ⟨c, u, hc, hlc, he⟩ | hr
      · by_cases hck : c = C.nx0 + k
        · rw [hck, p6] at hlc; cases hlc
        · rw [← he]; exact p5 c u hck hc hlc
      · omega
  · rw [hx.2 (C.nx0 + k) (by have := M.nx; omega)] at hp
    rw [hx.2 (C.nx0 + k') (by have := M.nx; omega)] at hp'
    exact M.pdist k k' p p' hk hk' hne hlk hlk' hp hp'

end
end I
end Go.Proofs.YtpaekplhcjleaaaGreatDoor
