import Derived.Test.YtpaekplhcjleaaaGreatDoorI18
namespace Go.Proofs.YtpaekplhcjleaaaGreatDoor
namespace I
open K (one aggB run_underlying' run_sizeOf' add_none run_v cell_cells)
set_option linter.unusedVariables false

/-- What a call comes to. -/
def CallOk (P : Program) (G : Nat) (f : Nat) (args : List AV) (h : AV) (nx : Nat) (v h' : AV) (nx' : Nat) : Prop :=
  ∀ (σ : Sg) (w0 : World) (B : Fr) (w : World) (vs : List Value), HS σ h nx w0 B w → GRel σ G → RelL σ args vs →
    CalleeOk P σ f vs w fun e w' => ∃ σ' v', SubX nx σ σ' ∧ Dk nx h h' ∧ nx ≤ nx' ∧ e = .returned v' ∧ Rel σ' v v' ∧ HS σ' h' nx' w0 B w'

structure DSim (ds : List Deferred) (C : DC) (w0 : World) (B : Fr) (h0 : AV) (σ : Sg) (s : D) (l : Array Bool) (a : Act) (w : World) : Prop where
  sl : SlotRel ds σ C.n C.d s.tm a
  g : GRel σ C.G
  m : MSim C w0 B σ s.h s.nx s.pt w
  free : ∀ k, k < C.ops.size → l.getD k true = false → σ (C.nx0 + k) = none
  dk : Dk C.nx0 h0 s.h

def KOk (C : DC) : Prop := ∀ f args h nx v h' nx', C.K f args h nx = some (v, h', nx') → CallOk C.P C.G f args h nx v h' nx'

theorem getD_set (l : Array Bool) (i k : Nat) : (l.setIfInBounds i true).getD k true = false → k ≠ i ∧ l.getD k true = false := by
  intro h
  by_cases hki : i = k
  · subst hki
    by_cases hlt : i < l.size
    · simp [hlt] at h
    · simp [hlt] at h
  · refine ⟨fun e => hki e.symm, ?_⟩
    rwa [getD_set_ne true hki] at h

section
variable {ds : List Deferred} {ro : Option Nat} {C : DC} {w0 w : World} {B : Fr} {hb : AV} {σ : Sg} {a : Act} {s s' : D} {l : Array Bool} {Q : Exit → Act → World → Prop}

theorem ancN_lt : ∀ (k j : Nat), (∀ (j : Nat) o, C.ops[j]? = some o → ∀ e ∈ o.after, e.on < C.ops.size) → ∀ x ∈ ancN C.ops k j, x < C.ops.size
  | 0, j, _, x, hx => by simp [ancN] at hx
  | k + 1, j, h, x, hx => by
    unfold ancN at hx
    split at hx
    · simp at hx
    · rename_i o ho
      obtain ⟨e, he, hx⟩ := List.mem_flatMap.1 hx
      cases hb : Region.binds .any e with
      | false => simp [hb] at hx
      | true =>
        simp only [hb, cond_true] at hx
        rcases List.mem_cons.1 hx with rfl | hx
        · exact h j o ho e (by simpa using he)
        · exact ancN_lt k e.on h x hx

theorem merge_dk {pd nx0 m : Nat} (hm : nx0 + m ≤ 2 ^ HD) : ∀ {l : List Nat} {h pt : AV}, (∀ j ∈ l, j < m) → Dk nx0 h (I.merge pd nx0 l h pt).1
  | [], h, pt, _ => Dk.refl _ _
  | j :: l, h, pt, hl => by
    have hj := hl j (List.mem_cons_self ..)
    simp only [I.merge]
    cases hb : (live (cget pd pt j) && Nat.blt j (2 ^ pd)) with
    | false => exact merge_dk hm (fun k hk => hl k (List.mem_cons_of_mem _ hk))
    | true =>
      simp only [cond_true]
      refine Dk.trans ?_ (merge_dk hm (fun k hk => hl k (List.mem_cons_of_mem _ hk))) (Nat.le_refl _)
      intro c hc hlc
      rw [cget_cput HD h (nx0 + j) c _ (by omega) (by omega), if_neg (by omega)] at hlc
      exact hlc

/-- One operation of a region that draws its order. -/
theorem dstep_ok (hK : KOk C) (hpd : C.ops.size ≤ 2 ^ C.pd) (hed : ∀ (j : Nat) o, C.ops[j]? = some o → ∀ e ∈ o.after, e.on < C.ops.size) (S : DSim ds C w0 B hb σ s l a w) {i : Nat} {o : Oper} (ho : C.ops[i]? = some o) (hun : l.getD i true = false) (hs : dstep C s i o = some s')
    {Kt : Act → World → Prop} (hKt : ∀ σ' a' w', SubX C.nx0 σ σ' → DSim ds C w0 B hb σ' s' (l.setIfInBounds i true) a' w' → Kt a' w') : wpOpIn (fen ro) 0 C.P C.ops Q i Kt a w := by
  have hi : i < C.ops.size := (Array.getElem?_eq_some_iff.1 ho).1
  unfold wpOpIn
  simp only [ho]
  have hfree : ∀ k, k < C.ops.size → (l.setIfInBounds i true).getD k true = false → σ (C.nx0 + k) = none := fun k hk hl => S.free k hk (getD_set l i k hl).2
  have hnx := S.m.nx
  have hρ := opndS_ok S.sl S.g (o.looksAt C.ops)
  unfold dstep at hs
  split at hs
  · cases hs
  · rename_i hw
    rw [wantA_ok S.sl hw]
    simp only [Bool.false_eq_true, if_false]
    simp only [Option.some.injEq] at hs
    subst hs
    exact ⟨fun _ _ => trivial, hKt σ _ w (SubX.refl _ σ) ⟨put_ok S.sl .undef, S.g, S.m, hfree, S.dk⟩⟩
  · rename_i hw
    rw [wantA_ok S.sl hw]
    simp only [if_true]
    cases hq : quietK o with
    | true =>
      simp only [hq, cond_true, quiet1] at hs
      split at hs
      · rename_i q hqe
        simp only [Option.some.injEq] at hs
        subst hs
        unfold qeff at hqe
        dsimp only at hqe
        split at hqe
        · rename_i v hv
          simp only [Option.some.injEq] at hqe
          subst hqe
          obtain ⟨u, h1, h2⟩ := apure_ok (P := C.P) (w := w) hρ hv
          exact wpIn_value h2 (hKt σ _ w (SubX.refl _ σ) ⟨put_ok S.sl h1, S.g, S.m, hfree, S.dk⟩)
        · split at hqe
          · rename_i nv x hv
            simp only [Option.some.injEq] at hqe
            subst hqe
            obtain ⟨p, u, w', ob, h1, h2, h3, h4, h5, h6, h7, h8⟩ := anew_core (P := C.P) (w := w) (w0 := w0) (B := B) S.m.hs.size hρ hv
            have h0 := S.free i hi hun
            have hmore : ∀ k, k < w.heap.size → w'.heap[k]? = w.heap[k]? := fun k hk => by rw [h2, Array.getElem?_push, if_neg (by omega)]
            have hsz : w'.heap.size = w.heap.size + 1 := by rw [h2]; simp
            have H1 := S.m.hs.more hmore (by omega) h3 h4 h5
            obtain ⟨hsub, H2⟩ := H1.bind (p := p) h0 (show C.nx0 + i < s.nx by omega)
            obtain ⟨h9, h10⟩ := h8 (C.nx0 + i) (ext σ (C.nx0 + i) p) hsub (by simp [ext])
            have hother : ∀ k, k ≠ i → ext σ (C.nx0 + i) p (C.nx0 + k) = σ (C.nx0 + k) := fun k hk => by unfold ext; rw [if_neg (by omega)]
            have hgp : ∀ k, k < C.ops.size → cget C.pd (cput C.pd s.pt i x) k = if k = i then x else cget C.pd s.pt k := fun k hk => cget_cput C.pd s.pt i k x (by omega) (by omega)
            refine wpIn_value h1 ?_
            refine hKt (ext σ (C.nx0 + i) p) _ w' ⟨hsub, fun b hb => by unfold ext; rw [if_neg (by omega)]⟩ ⟨put_ok (S.sl.mono hsub) h9, S.g.mono hsub, ⟨H2, hnx, fun k hk hlk => ?_, fun k k' q q' hk hk' hne hlk hlk' hq' hq'' => ?_⟩, fun k hk hl => ?_, S.dk⟩
            · by_cases hki : k = i
              · subst hki
                show ∃ p', _
                refine ⟨p, by simp [ext], ?_, by rw [h6]; exact S.m.hs.size, by rw [h6]; omega, ?_, fun b q hbk hb hl => ?_⟩
                · show BlkRel _ _ _ _ _ (cget C.pd (cput C.pd s.pt k x) k)
                  rw [hgp k hk, if_pos rfl]; exact h10
                · cases hl : live (cget HD s.h (C.nx0 + k)) with
                  | false => exact hl
                  | true =>
                    obtain ⟨q, hq⟩ := (S.m.hs.blk (C.nx0 + k) (Nat.lt_of_lt_of_le (show C.nx0 + k < s.nx by omega) S.m.hs.nxle)).name hl
                    rw [h0] at hq; cases hq
                · unfold ext at hb
                  rw [if_neg hbk] at hb
                  have := S.m.hs.real_lt hb hl
                  rw [h6]; omega
              · have hlk' : live (cget C.pd s.pt k) = true := by
                  have := hlk
                  simp only [QE.app, optput] at this
                  rw [hgp k hk, if_neg hki] at this; exact this
                obtain ⟨q, q1, q2, q3, q4, q6, q5⟩ := S.m.pend k hk hlk'
                refine ⟨q, by rw [hother k hki]; exact q1, ?_, q3, by omega, q6, fun b u hbk hb hl => ?_⟩
                · show BlkRel _ _ _ _ _ (cget C.pd (cput C.pd s.pt i x) k)
                  rw [hgp k hk, if_neg hki]
                  exact q2.mono hsub (fun r hr _ => by rw [q1] at hr; simp only [Option.some.injEq] at hr; rw [← hr]; exact hmore _ q4)
                · by_cases hbi : b = C.nx0 + i
                  · have hnl : live (cget HD s.h b) = true := hl
                    rw [hbi] at hnl
                    obtain ⟨q, hq⟩ := (S.m.hs.blk (C.nx0 + i) (Nat.lt_of_lt_of_le (show C.nx0 + i < s.nx by omega) S.m.hs.nxle)).name hnl
                    rw [h0] at hq; cases hq
                  · unfold ext at hb
                    rw [if_neg hbi] at hb
                    exact q5 b u hbk hb hl
            · have key : ∀ k, k < C.ops.size → k ≠ i → live (cget C.pd (cput C.pd s.pt i x) k) = true → live (cget C.pd s.pt k) = true := fun k hk hki hl => by rw [hgp k hk, if_neg hki] at hl; exact hl
              simp only [QE.app, optput] at hlk hlk'
              by_cases hki : k = i
              · have hki' : k' ≠ i := fun e => hne (hki.trans e.symm)
                rw [hki] at hq'
                simp only [ext, if_true, Option.some.injEq] at hq'
                rw [hother k' hki'] at hq''
                obtain ⟨u', q1, q2, q3, q4, q6, q5⟩ := S.m.pend k' hk' (key k' hk' hki' hlk')
                rw [q1] at hq''
                simp only [Option.some.injEq] at hq''
                rw [← hq', ← hq'', h6]; omega
              · rw [hother k hki] at hq'
                by_cases hki' : k' = i
                · rw [hki'] at hq''
                  simp only [ext, if_true, Option.some.injEq] at hq''
                  obtain ⟨u', q1, q2, q3, q4, q6, q5⟩ := S.m.pend k hk (key k hk hki hlk)
                  rw [q1] at hq'
                  simp only [Option.some.injEq] at hq'
                  rw [← hq', ← hq'', h6]; omega
                · rw [hother k' hki'] at hq''
                  exact S.m.pdist k k' q q' hk hk' hne (key k hk hki hlk) (key k' hk' hki' hlk') hq' hq''
            · have hki := (getD_set l i k hl).1
              rw [hother k hki]; exact hfree k hk hl
          · split at hqe
            · rename_i v hv
              simp only [Option.some.injEq] at hqe
              subst hqe
              obtain ⟨u, h1, h2⟩ := aread_ok (P := C.P) S.m.hs hρ hv
              exact wpIn_value h2 (hKt σ _ w (SubX.refl _ σ) ⟨put_ok S.sl h1, S.g, S.m, hfree, S.dk⟩)
            · cases hqe
      · cases hs
    | false =>
      simp only [hq, cond_false, eff1] at hs
      have M := S.m.merge hpd (l := ancN C.ops C.ops.size i) (ancN_lt _ _ hed)
      have hR := M.hs.rebase
      have hmd : Dk C.nx0 s.h (I.merge C.pd C.nx0 (ancN C.ops C.ops.size i) s.h s.pt).1 := merge_dk (by have := M.hs.nxle; omega) (ancN_lt _ _ hed)
      split at hs
      · rename_i v h' nx' hr
        cases hk : chkW C h' s.wt (others C i) with
        | false => simp [hk] at hs
        | true =>
          simp only [hk, cond_true, Option.some.injEq] at hs
          subst hs
          have hnx0 : ∀ {σ' : Sg}, SubX s.nx σ σ' → SubX C.nx0 σ σ' := fun h => ⟨h.1, fun b hb => h.2 b (by omega)⟩
          split at hr
          · rename_i r hr'
            simp only [Option.some.injEq] at hr
            rw [hr] at hr'
            obtain ⟨σ', u, w', g1, g2, g3, g4, g5, g6⟩ := aeff_ok (P := C.P) hR (fun _ => rfl) hρ hr'
            have hD : DSim ds C w0 B hb σ' { tm := putA C.n C.d s.tm o.dst v, h := h', nx := nx', pt := (I.merge C.pd C.nx0 (ancN C.ops C.ops.size i) s.h s.pt).2, wt := s.wt } (l.setIfInBounds i true) (a.put o.dst u) w' :=
              ⟨put_ok (S.sl.mono g1.1) g5, S.g.mono g1.1, M.behind g1 g2 g3 g6, fun k hk hl => by rw [g1.2 (C.nx0 + k) (by omega)]; exact hfree k hk hl, (S.dk.trans hmd (Nat.le_refl _)).trans g2 (by omega)⟩
            rcases g4 with g4 | ⟨g4, rfl⟩
            · exact wpIn_value g4 (hKt σ' _ w' (hnx0 g1) hD)
            · exact wpIn_skipOp g4 (hKt σ' _ w' (hnx0 g1) hD)
          · split at hr
            · rename_i f args hcal
              refine wpIn_callOp hρ hcal (fun vs g1 => hK f args _ _ v h' nx' hr σ w (img σ _) w vs hR S.g g1) ?_
              rintro e w' ⟨σ', v', k1, k2, k3, rfl, k5, k6⟩
              exact ⟨v', rfl, hKt σ' _ w' (hnx0 k1) ⟨put_ok (S.sl.mono k1.1) k5, S.g.mono k1.1, M.behind k1 k2 k3 k6, fun k hk hl => by rw [k1.2 (C.nx0 + k) (by omega)]; exact hfree k hk hl, (S.dk.trans hmd (Nat.le_refl _)).trans k2 (by omega)⟩⟩
            · cases hr
      · cases hs

end
end I
end Go.Proofs.YtpaekplhcjleaaaGreatDoor
