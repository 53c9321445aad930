import Derived.Test.YtnoipbbcpiaemaaI19
namespace Go.Proofs.Ytnoipbbcpiaemaa
namespace I
open K (one aggB run_underlying' run_sizeOf' add_none run_v cell_cells)
set_option linter.unusedVariables false

/-! ### All orders -/
def Good (C : DC) (F : D) : Nat → Array Bool → D → Prop
  | 0, l, s => Region.ready .any C.ops l = [] ∧ s = F
  | f + 1, l, s => (Region.ready .any C.ops l = [] → s = F) ∧ ∀ i ∈ Region.ready .any C.ops l, ∃ o s', C.ops[i]? = some o ∧ dstep C s i o = some s' ∧ Good C F f (l.setIfInBounds i true) s'

/-- What has come up has come up behind what it waits for. -/
def Closed (ops : Array Oper) (l : Array Bool) : Prop := ∀ k, l.getD k false = true → ∀ o, ops[k]? = some o → ∀ e ∈ o.after, Region.binds .any e = true → l.getD e.on false = true

def CleanAll (C : DC) (l : Array Bool) (s : D) : Prop := ∀ i, i < C.ops.size → l.getD i true = false → Clean C s i

/-- The operation that is taken next: none is left; number i. -/
def nextOp (ops : Array Oper) (l : Array Bool) : Option (Option Nat) :=
  match Region.ready .any ops l with
  | [] => some none
  | [i] => some (some i)
  | rs => match rs.find? (fun i => (match ops[i]? with | some o => quietK o | none => false) && Region.free .any ops l i) with
    | some i => some (some i)
    | none => none

def drawnA (C : DC) : Nat → Array Bool → D → Option D
  | 0, l, s => match nextOp C.ops l with
    | some none => some s
    | _ => none
  | f + 1, l, s => match nextOp C.ops l with
    | some none => some s
    | some (some i) => match C.ops[i]? with
      | some o => match dstep C s i o with
        | some s' => drawnA C f (l.setIfInBounds i true) s'
        | none => none
      | none => none
    | none => none

section
variable {C : DC} {F : D} {l : Array Bool}

theorem getD_true_false {i : Nat} (h : l.getD i true = false) : l.getD i false = false := by
  rcases Nat.lt_or_ge i l.size with hlt | hge
  · simp [hlt] at h ⊢; exact h
  · simp [hge] at h

theorem closed_add {i : Nat} (hc : Closed C.ops l) (hr : i ∈ Region.ready .any C.ops l) : Closed C.ops (l.setIfInBounds i true) := by
  intro k hk o ho e he hb
  apply getD_set_true
  by_cases hki : k = i
  · subst hki
    obtain ⟨_, o', ho', hall⟩ := mem_ready.1 hr
    rw [ho] at ho'; simp only [Option.some.injEq] at ho'; subst ho'
    exact hall e he hb
  · rw [getD_set_ne false (fun h => hki h.symm)] at hk
    exact hc k hk o ho e he hb

theorem anc_listed (hc : Closed C.ops l) : ∀ (k j : Nat), (∀ o, C.ops[j]? = some o → ∀ e ∈ o.after, Region.binds .any e = true → l.getD e.on false = true) → ∀ x ∈ ancN C.ops k j, l.getD x false = true
  | 0, j, _, x, hx => by simp [ancN] at hx
  | k + 1, j, h, x, hx => by
    unfold ancN at hx
    split at hx
    · simp at hx
    · rename_i o ho
      obtain ⟨e, he, hx⟩ := List.mem_flatMap.1 hx
      cases hb : Region.binds .any e with
      | false => simp [hb] at hx
      | true =>
        simp only [hb, cond_true] at hx
        have he' : e ∈ o.after := by simpa using he
        have h1 := h o ho e he' hb
        rcases List.mem_cons.1 hx with rfl | hx
        · exact h1
        · exact anc_listed hc k e.on (fun o' ho' e' he'' hb' => hc e.on h1 o' ho' e' he'' hb') x hx

theorem good_first (hn : C.n ≤ 2 ^ C.d) (hpd : C.ops.size ≤ 2 ^ C.pd) {i : Nat} {oi : Oper} (hi : C.ops[i]? = some oi) (hq : quietK oi = true) : ∀ (f : Nat) (l : Array Bool) (s s1 : D),
    (∀ j oj, C.ops[j]? = some oj → j ≠ i → l.getD j true = false → (∀ e ∈ oj.after, Region.binds .any e = true → e.on ≠ i) → oi.apart C.ops oj = true) →
    Closed C.ops l → CleanAll C l s → i ∈ Region.ready .any C.ops l → dstep C s i oi = some s1 → Good C F f (l.setIfInBounds i true) s1 → Good C F (f + 1) l s := by
  have hin : i < C.ops.size := (Array.getElem?_eq_some_iff.1 hi).1
  intro f
  induction f with
  | zero =>
    intro l s s1 _ hc hcl hr h1 H
    refine ⟨fun h => (by rw [h] at hr; cases hr), fun j hj => ?_⟩
    by_cases hji : j = i
    · subst hji; exact ⟨oi, s1, hi, h1, H⟩
    · have := ready_mono hj hji
      rw [H.1] at this
      cases this
  | succ f ih =>
    intro l s s1 hfree hc hcl hr h1 H
    refine ⟨fun h => (by rw [h] at hr; cases hr), fun j hj => ?_⟩
    by_cases hji : j = i
    · subst hji; exact ⟨oi, s1, hi, h1, H⟩
    · obtain ⟨oj, s2, hoj, h2, H2⟩ := H.2 j (ready_mono hj hji)
      have hjn : j < C.ops.size := (Array.getElem?_eq_some_iff.1 hoj).1
      obtain ⟨hjun, oj', hoj', hall⟩ := mem_ready.1 hj
      rw [hoj] at hoj'; simp only [Option.some.injEq] at hoj'; subst hoj'
      have hiun := (mem_ready.1 hr).1
      have hif := getD_true_false hiun
      have hnot : ∀ e ∈ oj.after, Region.binds .any e = true → e.on ≠ i := fun e he hb heq => by
        have := hall e he hb
        rw [heq, hif] at this; cases this
      have hanc : i ∉ ancN C.ops C.ops.size j := fun hm => by
        have := anc_listed hc C.ops.size j (fun o ho e he hb => by rw [hoj] at ho; simp only [Option.some.injEq] at ho; subst ho; exact hall e he hb) i hm
        rw [hif] at this; cases this
      obtain ⟨s', d1, d2⟩ := diamond hn hi hoj hpd (fun e => hji e.symm) (hcl i hin hiun) hq (hfree j oj hoj hji hjun hnot) hanc h1 h2
      refine ⟨oj, s', hoj, d1, ih (l.setIfInBounds j true) s' s2 ?_ (closed_add hc hj) ?_ (ready_mono hr (Ne.symm hji)) d2 ?_⟩
      · intro k ok hk hki hun hno
        refine hfree k ok hk hki ?_ hno
        exact (getD_set l j k hun).2
      · intro k hk hun
        obtain ⟨hkj, hun'⟩ := getD_set l j k hun
        exact dstep_clean (by omega) (by omega) (fun e => hkj e.symm) (hcl k hk hun') d1
      · rw [Array.setIfInBounds_comm _ _ hji]
        exact H2

theorem nextOp_some {i : Nat} (h : nextOp C.ops l = some (some i)) : Region.ready .any C.ops l = [i] ∨ (i ∈ Region.ready .any C.ops l ∧ (∃ o, C.ops[i]? = some o ∧ quietK o = true) ∧ Region.free .any C.ops l i = true) := by
  unfold nextOp at h
  split at h
  · cases h
  · rename_i j hr
    simp only [Option.some.injEq] at h
    subst h
    exact .inl hr
  · split at h
    · rename_i j hf
      simp only [Option.some.injEq] at h
      subst h
      have h1 := List.mem_of_find?_eq_some hf
      have h2 := List.find?_some hf
      simp only [Bool.and_eq_true] at h2
      refine .inr ⟨h1, ?_, h2.2⟩
      have h3 := h2.1
      split at h3
      · rename_i o ho; exact ⟨o, ho, h3⟩
      · cases h3
    · cases h

theorem nextOp_none (h : nextOp C.ops l = some none) : Region.ready .any C.ops l = [] := by
  unfold nextOp at h
  split at h
  · assumption
  · cases h
  · split at h <;> cases h

theorem drawnA_good (hn : C.n ≤ 2 ^ C.d) (hpd : C.ops.size ≤ 2 ^ C.pd) : ∀ (f : Nat) (l : Array Bool) (s : D), Closed C.ops l → CleanAll C l s → drawnA C f l s = some F → Good C F f l s
  | 0, l, s, hc, hcl, h => by
    unfold drawnA at h
    split at h
    · rename_i hx
      simp only [Option.some.injEq] at h
      exact ⟨nextOp_none hx, h⟩
    · cases h
  | f + 1, l, s, hc, hcl, h => by
    unfold drawnA at h
    split at h
    · rename_i hx
      simp only [Option.some.injEq] at h
      have := nextOp_none hx
      exact ⟨fun _ => h, fun i hi => by rw [this] at hi; cases hi⟩
    · rename_i i hx
      split at h
      · rename_i o ho
        split at h
        · rename_i s' hs
          have hin : i < C.ops.size := (Array.getElem?_eq_some_iff.1 ho).1
          have hready : i ∈ Region.ready .any C.ops l := by
            rcases nextOp_some hx with h1 | h1
            · rw [h1]; exact List.mem_cons_self ..
            · exact h1.1
          have hcl' : CleanAll C (l.setIfInBounds i true) s' := fun k hk hun => by
            obtain ⟨hki, hun'⟩ := getD_set l i k hun
            exact dstep_clean (by omega) (by omega) (fun e => hki e.symm) (hcl k hk hun') hs
          have ih := drawnA_good hn hpd f _ s' (closed_add hc hready) hcl' h
          rcases nextOp_some hx with h1 | ⟨h1, ⟨o', ho', hq⟩, hfr⟩
          · refine ⟨fun h0 => (by rw [h0] at h1; cases h1), fun j hj => ?_⟩
            rw [h1] at hj
            simp only [List.mem_cons, List.not_mem_nil, or_false] at hj
            subst hj
            exact ⟨o, s', ho, hs, ih⟩
          · rw [ho] at ho'; simp only [Option.some.injEq] at ho'; subst ho'
            exact good_first hn hpd ho hq f l s s' (Region.free_spec ho hfr) hc hcl h1 hs ih
        · cases h
      · cases h
    · cases h

variable {w0 : World} {B : Fr} {hb : AV} {Q : Exit → Act → World → Prop}

theorem good_wp (hK : KOk C) (hpd : C.ops.size ≤ 2 ^ C.pd) (hed : ∀ (j : Nat) o, C.ops[j]? = some o → ∀ e ∈ o.after, e.on < C.ops.size) : ∀ (f : Nat) (l : Array Bool) (s : D) (σ : Sg) (a : Act) (w : World), Good C F f l s → DSim C w0 B hb σ s l a w →
    (∀ σ' l' a' w', SubX C.nx0 σ σ' → DSim C w0 B hb σ' F l' a' w' → Q .normal a' w') → wpAny C.P .any C.ops Q f l a w
  | 0, l, s, σ, a, w, hg, S, hQ => ⟨hg.1, hQ σ l a w (SubX.refl _ σ) (hg.2 ▸ S)⟩
  | f + 1, l, s, σ, a, w, hg, S, hQ => by
    refine ⟨fun h0 => hQ σ l a w (SubX.refl _ σ) (hg.1 h0 ▸ S), fun i hi => ?_⟩
    obtain ⟨o, s', ho, hs, hg'⟩ := hg.2 i hi
    refine dstep_ok hK hpd hed S ho (mem_ready.1 hi).1 hs (fun σ' a' w' hx S' => ?_)
    exact good_wp hK hpd hed f _ s' σ' a' w' hg' S' (fun σ'' l' a'' w'' hx' S'' => hQ σ'' l' a'' w'' (hx.trans hx' (Nat.le_refl _)) S'')

end
end I
end Go.Proofs.Ytnoipbbcpiaemaa
