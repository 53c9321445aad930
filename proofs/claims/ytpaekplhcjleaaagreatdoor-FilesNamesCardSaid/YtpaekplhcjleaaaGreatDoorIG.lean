import Derived.Test.YtpaekplhcjleaaaGreatDoorJ7
namespace Go.Proofs.YtpaekplhcjleaaaGreatDoor
namespace I
set_option linter.unusedVariables false

/-! ### A run in parts: memory as it stands between two of them -/

/-- Is what is known of a block still so? -/
def covB : AV → AV → Bool
  | _, .dead => true
  | .cells a n ro t, .cells a' n' ro' t' => Nat.beq a a' && (Nat.beq n n' && ((ro == ro') && beqA t t'))
  | .mp l, .mp l' => beqA l l'
  | .df, .df => true
  | _, _ => false

theorem covB_ok {x y : AV} (h : covB x y = true) : y = .dead ∨ y = x := by
  unfold covB at h
  split at h
  · exact .inl rfl
  · simp only [Bool.and_eq_true, beq_iff_eq] at h
    right
    rw [beqn_iff.1 h.1, beqn_iff.1 h.2.1, h.2.2.1, beqA_ok _ _ h.2.2.2]
  · right; rw [beqA_ok _ _ h]
  · exact .inr rfl
  · cases h

/-- Memory h has all that memory g tells. -/
def cov : Nat → AV → AV → Bool
  | 0, x, y => covB x y
  | d + 1, h, .node l r => cov d (kidL d h) l && cov d (kidR d h) r
  | _ + 1, _, .uni .dead => true
  | _ + 1, _, _ => false

theorem cget_kidL (d : Nat) (t : AV) (i : Nat) (hi : i < 2 ^ d) : cget d (kidL d t) i = cget (d + 1) t i := by
  cases t <;> simp only [kidL, cget, cget_unid] <;> first | rfl | (rw [blt_iff.2 hi]; rfl)
theorem cget_kidR (d : Nat) (t : AV) (i : Nat) (hi : 2 ^ d ≤ i) : cget d (kidR d t) (i - 2 ^ d) = cget (d + 1) t i := by
  cases t <;> simp only [kidR, cget, cget_unid] <;> first | rfl | (rw [blt_false.2 hi]; rfl)

theorem cov_get : ∀ {d : Nat} {h g : AV}, cov d h g = true → ∀ b, b < 2 ^ d → cget d g b = .dead ∨ cget d g b = cget d h b
  | 0, h, g, hc, b, _ => by
    have := covB_ok (show covB h g = true from hc)
    exact this
  | d + 1, h, g, hc, b, hb => by
    rw [Nat.pow_succ] at hb
    unfold cov at hc
    split at hc
    · rename_i heq; cases heq
    · rename_i d' h' l r heq
      cases heq
      simp only [Bool.and_eq_true] at hc
      by_cases h2 : b < 2 ^ d
      · have := cov_get hc.1 b h2
        rw [cget_kidL d _ b h2] at this
        simp only [cget]
        rw [blt_iff.2 h2, cond_true]; exact this
      · have := cov_get hc.2 (b - 2 ^ d) (by omega)
        rw [cget_kidR d _ b (by omega)] at this
        simp only [cget]
        rw [blt_false.2 (by omega), cond_false]; exact this
    · left; rfl
    · cases hc

theorem HS.cov {σ : Sg} {h g : AV} {nx : Nat} {w0 w : World} {B : Fr} (H : HS σ h nx w0 B w) (hc : I.cov HD h g = true) : HS σ g nx w0 B w := by
  have hg := fun b hb => cov_get hc b hb
  have hlt : ∀ b p, σ b = some p → b < 2 ^ HD := fun b p hs => Nat.lt_of_lt_of_le (H.dom b p hs) H.nxle
  refine ⟨H.os, H.tape, H.output, H.size, H.block, fun b hb => ?_, H.dom, H.nxle, fun b b' p p' hne hs hs' hl hl' => ?_, fun b p hs hl => ?_⟩
  · rcases hg b hb with e | e
    · rw [e]; trivial
    · rw [e]; exact H.blk b hb
  · refine H.dist b b' p p' hne hs hs' ?_ ?_
    · rcases hg b (hlt b p hs) with e | e
      · rw [e] at hl; cases hl
      · rw [← e]; exact hl
    · rcases hg b' (hlt b' p' hs') with e | e
      · rw [e] at hl'; cases hl'
      · rw [← e]; exact hl'
  · refine H.acc b p hs ?_
    rcases hg b (hlt b p hs) with e | e
    · rw [e] at hl; cases hl
    · rw [← e]; exact hl

def beqL : List AV → List AV → Bool
  | [], [] => true
  | a :: l, b :: m => beqA a b && beqL l m
  | _, _ => false
theorem beqL_ok : ∀ {l m : List AV}, beqL l m = true → l = m
  | [], [], _ => rfl
  | a :: l, b :: m, h => by
    simp only [beqL, Bool.and_eq_true] at h
    rw [beqA_ok _ _ h.1, beqL_ok h.2]
  | [], _ :: _, h => by cases h
  | _ :: _, [], h => by cases h

/-- A call that was run: from where, and to where. -/
structure Snap where
  f : Nat
  args : List AV
  h : AV
  nx : Nat
  v : AV
  h' : AV
  nx' : Nat

def snapX (S : Snap) : KF := fun f args h nx =>
  bif Nat.beq f S.f && (Nat.beq nx S.nx && (beqL args S.args && cov HD h S.h)) then some (S.v, S.h', S.nx') else none

def SnapOk (P : Program) (G : Nat) (S : Snap) : Prop := CallOk P G (2 * S.f) S.args S.h S.nx S.v S.h' S.nx'

theorem snapX_ok {P : Program} {G : Nat} {S : Snap} (hS : SnapOk P G S) : XOk P G (snapX S) := by
  intro f args h nx v h' nx' hh
  unfold snapX at hh
  cases hb : (Nat.beq f S.f && (Nat.beq nx S.nx && (beqL args S.args && I.cov HD h S.h))) with
  | false => simp [hb] at hh
  | true =>
    simp only [hb, cond_true, Option.some.injEq, Prod.mk.injEq] at hh
    obtain ⟨rfl, rfl, rfl⟩ := hh
    simp only [Bool.and_eq_true] at hb
    have e1 := beqn_iff.1 hb.1
    have e2 := beqn_iff.1 hb.2.1
    have e3 := beqL_ok hb.2.2.1
    have e4 := hb.2.2.2
    subst e1; subst e2; subst e3
    intro σ w0 B w vs H hG hr
    have hc := hS σ w0 B w vs (H.cov e4) hG hr
    have mono : ∀ (e : Ending) (w' : World), (∃ σ' v', SubX S.nx σ σ' ∧ Dk S.nx S.h S.h' ∧ S.nx ≤ S.nx' ∧ e = .returned v' ∧ Rel σ' S.v v' ∧ HS σ' S.h' S.nx' w0 B w') →
        ∃ σ' v', SubX S.nx σ σ' ∧ Dk S.nx h S.h' ∧ S.nx ≤ S.nx' ∧ e = .returned v' ∧ Rel σ' S.v v' ∧ HS σ' S.h' S.nx' w0 B w' := by
      rintro e w' ⟨σ', v', a1, a2, a3, a4, a5, a6⟩
      refine ⟨σ', v', a1, fun c hcn hl => ?_, a3, a4, a5, a6⟩
      have h1 := a2 c hcn hl
      have hlt : c < 2 ^ HD := Nat.lt_of_lt_of_le hcn H.nxle
      rcases cov_get e4 c hlt with e5 | e5
      · rw [e5] at h1; cases h1
      · rw [← e5]; exact h1
    unfold CalleeOk at hc ⊢
    rw [if_pos (by omega)] at hc ⊢
    exact ⟨hc.1, hc.2.mono mono⟩

/-- What a part's run ends in. -/
noncomputable def endK (S : Snap) : VK := fun v h nx => beqA v S.v && (Nat.beq nx S.nx' && cov HD h S.h')

theorem snap_of_run {P : Program} {G : Nat} {X : KF} {N k : Nat} {S : Snap} (hX : XOk P G X) (hr : (bif callC P G X N k (2 * S.f) S.args S.h S.nx (endK S) then true else false) = true) : SnapOk P G S := by
  obtain ⟨h1, _⟩ := cond_ok hr
  obtain ⟨v, h', nx', e, h2⟩ := callC_ok P G X N k _ _ _ _ _ h1
  have h3 : (beqA v S.v && (Nat.beq nx' S.nx' && cov HD h' S.h')) = true := h2
  simp only [Bool.and_eq_true] at h3
  have e1 := beqA_ok _ _ h3.1
  have e2 := beqn_iff.1 h3.2.1
  have e3 := h3.2.2
  subst e1; subst e2
  intro σ w0 B w vs H hG hr
  have hc := callA_ok hX k _ _ _ _ _ _ _ e σ w0 B w vs H hG hr
  have mono : ∀ (en : Ending) (w' : World), (∃ σ' v', SubX S.nx σ σ' ∧ Dk S.nx S.h h' ∧ S.nx ≤ S.nx' ∧ en = .returned v' ∧ Rel σ' S.v v' ∧ HS σ' h' S.nx' w0 B w') →
      ∃ σ' v', SubX S.nx σ σ' ∧ Dk S.nx S.h S.h' ∧ S.nx ≤ S.nx' ∧ en = .returned v' ∧ Rel σ' S.v v' ∧ HS σ' S.h' S.nx' w0 B w' := by
    rintro en w' ⟨σ', v', a1, a2, a3, a4, a5, a6⟩
    refine ⟨σ', v', a1, fun c hcn hl => a2 c hcn ?_, a3, a4, a5, a6.cov e3⟩
    have hlt : c < 2 ^ HD := Nat.lt_of_lt_of_le hcn H.nxle
    rcases cov_get e3 c hlt with e5 | e5
    · rw [e5] at hl; cases hl
    · rw [← e5]; exact hl
  unfold CalleeOk at hc ⊢
  rw [if_pos (by omega)] at hc ⊢
  exact ⟨hc.1, hc.2.mono mono⟩
end I
end Go.Proofs.YtpaekplhcjleaaaGreatDoor
