/- Texts on which the proof of this claim stands: IG, Lay1, Lay2, Lay3. -/
import Derived.Test.YtdjpokckamlccaaGreatDoorP6
import Derived.Test.YtdjpokckamlccaaGreatDoorChecked
import Derived.Test.YtdjpokckamlccaaGreatDoorP5
import Derived.Shelf.SortM.Plain
import Derived.Shelf.SortM.SortNone
import Derived.Shelf.Strings.Repeat
namespace Go.Proofs.YtdjpokckamlccaaGreatDoor
namespace I
set_option linter.unusedVariables false
/-- Is what is known of a block still so? -/
def covB : AV → AV → Bool
  | _, .dead => true
  | .cells a n ro t, .cells a' n' ro' t' => Nat.beq a a' && (Nat.beq n n' && ((ro == ro') && beqA t t'))
  | .mp l, .mp l' => beqA l l'
  | .df, .df => true
  | _, _ => false
theorem covB_ok {x y : AV} (h : covB x y = true) : y = .dead ∨ y = x := by
  unfold covB at h
  split at h
  · exact .inl rfl
  · simp only [Bool.and_eq_true, beq_iff_eq] at h
    right
    rw [beqn_iff.1 h.1, beqn_iff.1 h.2.1, h.2.2.1, beqA_ok _ _ h.2.2.2]
  · right; rw [beqA_ok _ _ h]
  · exact .inr rfl
  · cases h
/-- Memory h has all that memory g tells. -/
def cov : Nat → AV → AV → Bool
  | 0, x, y => covB x y
  | d + 1, h, .node l r => cov d (kidL d h) l && cov d (kidR d h) r
  | _ + 1, _, .uni .dead => true
  | _ + 1, _, _ => false
theorem cget_kidL (d : Nat) (t : AV) (i : Nat) (hi : i < 2 ^ d) : cget d (kidL d t) i = cget (d + 1) t i := by
  rw [cget_kids d t i (by rw [Nat.pow_succ]; omega), blt_iff.2 hi]; rfl
theorem cget_kidR (d : Nat) (t : AV) (i : Nat) (hi : 2 ^ d ≤ i) (hlt : i < 2 ^ d * 2) : cget d (kidR d t) (i - 2 ^ d) = cget (d + 1) t i := by
  rw [cget_kids d t i (by rw [Nat.pow_succ]; omega), blt_false.2 hi]; rfl
theorem cov_get : ∀ {d : Nat} {h g : AV}, cov d h g = true → ∀ b, b < 2 ^ d → cget d g b = .dead ∨ cget d g b = cget d h b
  | 0, h, g, hc, b, _ => by
    have := covB_ok (show covB h g = true from hc)
    exact this
  | d + 1, h, g, hc, b, hb => by
    rw [Nat.pow_succ] at hb
    unfold cov at hc
    split at hc
    · rename_i heq; cases heq
    · rename_i d' h' l r heq
      cases heq
      simp only [Bool.and_eq_true] at hc
      by_cases h2 : b < 2 ^ d
      · have := cov_get hc.1 b h2
        rw [cget_kidL d _ b h2] at this
        simp only [cget]
        rw [blt_iff.2 h2, cond_true]; exact this
      · have := cov_get hc.2 (b - 2 ^ d) (by omega)
        rw [cget_kidR d _ b (by omega) hb] at this
        simp only [cget]
        rw [blt_false.2 (by omega), cond_false]; exact this
    · left; rfl
    · cases hc
theorem HS.cov {σ : Sg} {h g : AV} {nx : Nat} {w0 w : World} {B : Fr} (H : HS σ h nx w0 B w) (hc : I.cov HD h g = true) : HS σ g nx w0 B w := by
  have hg := fun b hb => cov_get hc b hb
  have hlt : ∀ b p, σ b = some p → b < 2 ^ HD := fun b p hs => Nat.lt_of_lt_of_le (H.dom b p hs) H.nxle
  refine ⟨H.os, H.tape, H.output, H.size, H.block, fun b hb => ?_, H.dom, H.nxle, fun b b' p p' hne hs hs' hl hl' => ?_, fun b p hs hl => ?_⟩
  · rcases hg b hb with e | e
    · rw [e]; trivial
    · rw [e]; exact H.blk b hb
  · refine H.dist b b' p p' hne hs hs' ?_ ?_
    · rcases hg b (hlt b p hs) with e | e
      · rw [e] at hl; cases hl
      · rw [← e]; exact hl
    · rcases hg b' (hlt b' p' hs') with e | e
      · rw [e] at hl'; cases hl'
      · rw [← e]; exact hl'
  · refine H.acc b p hs ?_
    rcases hg b (hlt b p hs) with e | e
    · rw [e] at hl; cases hl
    · rw [← e]; exact hl
def beqL : List AV → List AV → Bool
  | [], [] => true
  | a :: l, b :: m => beqA a b && beqL l m
  | _, _ => false
theorem beqL_ok : ∀ {l m : List AV}, beqL l m = true → l = m
  | [], [], _ => rfl
  | a :: l, b :: m, h => by
    simp only [beqL, Bool.and_eq_true] at h
    rw [beqA_ok _ _ h.1, beqL_ok h.2]
  | [], _ :: _, h => by cases h
  | _ :: _, [], h => by cases h
/-- A call that was run: from where, and to where. -/
structure Snap where
  f : Nat
  args : List AV
  h : AV
  nx : Nat
  v : AV
  h' : AV
  nx' : Nat
def snapX (S : Snap) : KF := fun f args h nx =>
  bif Nat.beq f S.f && (Nat.beq nx S.nx && (beqL args S.args && cov HD h S.h)) then some (S.v, S.h', S.nx') else none
def SnapOk (P : Program) (G : Nat) (S : Snap) : Prop := CallOk P G (2 * S.f) S.args S.h S.nx S.v S.h' S.nx'
theorem snapX_ok {P : Program} {G : Nat} {S : Snap} (hS : SnapOk P G S) : XOk P G (snapX S) := by
  intro f args h nx v h' nx' hh
  unfold snapX at hh
  cases hb : (Nat.beq f S.f && (Nat.beq nx S.nx && (beqL args S.args && I.cov HD h S.h))) with
  | false => simp [hb] at hh
  | true =>
    simp only [hb, cond_true, Option.some.injEq, Prod.mk.injEq] at hh
    obtain ⟨rfl, rfl, rfl⟩ := hh
    simp only [Bool.and_eq_true] at hb
    have e1 := beqn_iff.1 hb.1
    have e2 := beqn_iff.1 hb.2.1
    have e3 := beqL_ok hb.2.2.1
    have e4 := hb.2.2.2
    subst e1; subst e2; subst e3
    intro σ w0 B w vs H hG hr
    have hc := hS σ w0 B w vs (H.cov e4) hG hr
    have mono : ∀ (e : Ending) (w' : World), (∃ σ' v', SubX S.nx σ σ' ∧ Dk S.nx S.h S.h' ∧ S.nx ≤ S.nx' ∧ e = .returned v' ∧ Rel σ' S.v v' ∧ HS σ' S.h' S.nx' w0 B w') →
        ∃ σ' v', SubX S.nx σ σ' ∧ Dk S.nx h S.h' ∧ S.nx ≤ S.nx' ∧ e = .returned v' ∧ Rel σ' S.v v' ∧ HS σ' S.h' S.nx' w0 B w' := by
      rintro e w' ⟨σ', v', a1, a2, a3, a4, a5, a6⟩
      refine ⟨σ', v', a1, fun c hcn hl => ?_, a3, a4, a5, a6⟩
      have h1 := a2 c hcn hl
      have hlt : c < 2 ^ HD := Nat.lt_of_lt_of_le hcn H.nxle
      rcases cov_get e4 c hlt with e5 | e5
      · rw [e5] at h1; cases h1
      · rw [← e5]; exact h1
    unfold CalleeOk at hc ⊢
    rw [if_pos (by omega)] at hc ⊢
    exact ⟨hc.1, hc.2.mono mono⟩
/-- What a part's run ends in. -/
noncomputable def endK (S : Snap) : VK := fun v h nx => beqA v S.v && (Nat.beq nx S.nx' && cov HD h S.h')
theorem snap_of_run {P : Program} {G : Nat} {X : KF} {N k : Nat} {S : Snap} (hX : XOk P G X) (hr : (bif callC P G X N k (2 * S.f) S.args S.h S.nx (endK S) then true else false) = true) : SnapOk P G S := by
  obtain ⟨h1, _⟩ := cond_ok hr
  obtain ⟨v, h', nx', e, h2⟩ := callC_ok P G X N k _ _ _ _ _ h1
  have h3 : (beqA v S.v && (Nat.beq nx' S.nx' && cov HD h' S.h')) = true := h2
  simp only [Bool.and_eq_true] at h3
  have e1 := beqA_ok _ _ h3.1
  have e2 := beqn_iff.1 h3.2.1
  have e3 := h3.2.2
  subst e1; subst e2
  intro σ w0 B w vs H hG hr
  have hc := callA_ok hX k _ _ _ _ _ _ _ e σ w0 B w vs H hG hr
  have mono : ∀ (en : Ending) (w' : World), (∃ σ' v', SubX S.nx σ σ' ∧ Dk S.nx S.h h' ∧ S.nx ≤ S.nx' ∧ en = .returned v' ∧ Rel σ' S.v v' ∧ HS σ' h' S.nx' w0 B w') →
      ∃ σ' v', SubX S.nx σ σ' ∧ Dk S.nx S.h S.h' ∧ S.nx ≤ S.nx' ∧ en = .returned v' ∧ Rel σ' S.v v' ∧ HS σ' S.h' S.nx' w0 B w' := by
    rintro en w' ⟨σ', v', a1, a2, a3, a4, a5, a6⟩
    refine ⟨σ', v', a1, fun c hcn hl => a2 c hcn ?_, a3, a4, a5, a6.cov e3⟩
    have hlt : c < 2 ^ HD := Nat.lt_of_lt_of_le hcn H.nxle
    rcases cov_get e3 c hlt with e5 | e5
    · rw [e5] at hl; cases hl
    · rw [← e5]; exact hl
  unfold CalleeOk at hc ⊢
  rw [if_pos (by omega)] at hc ⊢
  exact ⟨hc.1, hc.2.mono mono⟩
end I
end Go.Proofs.YtdjpokckamlccaaGreatDoor
namespace Go.Proofs.YtdjpokckamlccaaGreatDoor
open Go.Shelf Go.Proofs
def L.keys143_ren : Go.Shelf.Ren := ⟨fun | 7 => 143 | 10 => 198 | n => n, fun | 23 => 157 | 26 => 3 | 3 => 154 | 28 => 240 | 0 => 0 | 27 => 239 | 33 => 295 | 4 => 4 | n => n, fun | n => n⟩
theorem L.keys143 : Go.Proofs.SlLaysZI.n7 Tryz.prog L.keys143_ren := {
  mixed := by kernel_rfl,
  f7 := ⟨Tryz.f143.name, by decide, Tryz.func143.trans (congrArg some (by kernel_rfl))⟩,
  f10 := ⟨Tryz.f198.name, by decide, Tryz.func198.trans (congrArg some (by kernel_rfl))⟩,
  t0 := Tryz.underlying0,
  a0 := Tryz.isAgg0,
  z0 := Tryz.sizeOf0,
  v0 := Tryz.zeroValue0,
  t4 := Tryz.underlying4,
  a4 := Tryz.isAgg4,
  z4 := Tryz.sizeOf4,
  v4 := Tryz.zeroValue4,
  t23 := Tryz.underlying157,
  a23 := Tryz.isAgg157,
  z23 := Tryz.sizeOf157,
  v23 := Tryz.zeroValue157,
  t26 := Tryz.underlying3,
  a26 := Tryz.isAgg3,
  z26 := Tryz.sizeOf3,
  v26 := Tryz.zeroValue3,
  t27 := Tryz.underlying239,
  a27 := Tryz.isAgg239,
  z27 := Tryz.sizeOf239,
  v27 := Tryz.zeroValue239,
  t28 := Tryz.underlying240,
  a28 := Tryz.isAgg240,
  z28 := Tryz.sizeOf240,
  v28 := Tryz.zeroValue240,
  t33 := Tryz.underlying295,
  a33 := Tryz.isAgg295,
  z33 := Tryz.sizeOf295,
  v33 := Tryz.zeroValue295 }
def L.sorted142_ren : Go.Shelf.Ren := ⟨fun | 6 => 142 | 8 => 196 | 9 => 197 | 11 => 245 | 13 => 70 | 12 => 246 | 23 => 134 | 24 => 135 | 14 => 281 | 15 => 282 | 16 => 283 | 17 => 284 | 18 => 285 | 19 => 286 | 20 => 287 | 21 => 288 | 22 => 289 | 25 => 311 | 26 => 187 | 27 => 188 | 28 => 312 | 29 => 313 | 30 => 314 | 31 => 335 | n => n, fun | 26 => 3 | 28 => 240 | 24 => 146 | 0 => 0 | 3 => 3 | 37 => 152 | 48 => 99 | 50 => 37 | 4 => 4 | 40 => 228 | 39 => 227 | 45 => 138 | 5 => 5 | 9 => 9 | 51 => 283 | 55 => 286 | 57 => 332 | 58 => 333 | 33 => 295 | n => n, fun | n => n⟩
theorem L.sorted142 : Go.Proofs.SlLaysZI.n6 Tryz.prog L.sorted142_ren := {
  mixed := by kernel_rfl,
  f6 := ⟨Tryz.f142.name, by decide, Tryz.func142.trans (congrArg some (by kernel_rfl))⟩,
  f8 := ⟨Tryz.f196.name, by decide, Tryz.func196.trans (congrArg some (by kernel_rfl))⟩,
  f11 := ⟨Tryz.f245.name, by decide, Tryz.func245.trans (congrArg some (by kernel_rfl))⟩,
  t0 := Tryz.underlying0,
  a0 := Tryz.isAgg0,
  z0 := Tryz.sizeOf0,
  v0 := Tryz.zeroValue0,
  t24 := Tryz.underlying146,
  a24 := Tryz.isAgg146,
  z24 := Tryz.sizeOf146,
  v24 := Tryz.zeroValue146,
  t26 := Tryz.underlying3,
  a26 := Tryz.isAgg3,
  z26 := Tryz.sizeOf3,
  v26 := Tryz.zeroValue3,
  t28 := Tryz.underlying240,
  a28 := Tryz.isAgg240,
  z28 := Tryz.sizeOf240,
  v28 := Tryz.zeroValue240,
  i26 := by kernel_rfl }
def L.sort197_ren : Go.Shelf.Ren := ⟨fun | 5 => 197 | 8 => 70 | 7 => 246 | 19 => 134 | 20 => 135 | 10 => 281 | 11 => 282 | 12 => 283 | 13 => 284 | 14 => 285 | 15 => 286 | 16 => 287 | 17 => 288 | 18 => 289 | 30 => 311 | 31 => 187 | 32 => 188 | 33 => 312 | 34 => 313 | 35 => 314 | 40 => 335 | n => n, fun | 23 => 146 | 25 => 3 | 3 => 3 | 32 => 152 | 22 => 146 | 0 => 0 | 44 => 99 | 46 => 37 | 4 => 4 | 36 => 228 | 35 => 227 | 41 => 138 | 5 => 5 | 9 => 9 | 53 => 283 | 57 => 286 | 63 => 332 | 64 => 333 | n => n, fun | n => n⟩
theorem L.sort197 : Go.Proofs.SlLaysM.n5 Tryz.prog L.sort197_ren := {
  mixed := by kernel_rfl,
  f5 := ⟨Tryz.f197.name, by decide, Tryz.func197.trans (congrArg some (by kernel_rfl))⟩,
  f7 := ⟨Tryz.f246.name, by decide, Tryz.func246.trans (congrArg some (by kernel_rfl))⟩,
  f8 := Tryz.func70.trans (congrArg some (by kernel_rfl)),
  f10 := ⟨Tryz.f281.name, by decide, Tryz.func281.trans (congrArg some (by kernel_rfl))⟩,
  f11 := ⟨Tryz.f282.name, by decide, Tryz.func282.trans (congrArg some (by kernel_rfl))⟩,
  f12 := ⟨Tryz.f283.name, by decide, Tryz.func283.trans (congrArg some (by kernel_rfl))⟩,
  f13 := ⟨Tryz.f284.name, by decide, Tryz.func284.trans (congrArg some (by kernel_rfl))⟩,
  f14 := ⟨Tryz.f285.name, by decide, Tryz.func285.trans (congrArg some (by kernel_rfl))⟩,
  f15 := ⟨Tryz.f286.name, by decide, Tryz.func286.trans (congrArg some (by kernel_rfl))⟩,
  f16 := ⟨Tryz.f287.name, by decide, Tryz.func287.trans (congrArg some (by kernel_rfl))⟩,
  f17 := ⟨Tryz.f288.name, by decide, Tryz.func288.trans (congrArg some (by kernel_rfl))⟩,
  f18 := ⟨Tryz.f289.name, by decide, Tryz.func289.trans (congrArg some (by kernel_rfl))⟩,
  f19 := Tryz.func134.trans (congrArg some (by kernel_rfl)),
  f20 := Tryz.func135.trans (congrArg some (by kernel_rfl)),
  f30 := ⟨Tryz.f311.name, by decide, Tryz.func311.trans (congrArg some (by kernel_rfl))⟩,
  f31 := Tryz.func187.trans (congrArg some (by kernel_rfl)),
  f32 := Tryz.func188.trans (congrArg some (by kernel_rfl)),
  f33 := ⟨Tryz.f312.name, by decide, Tryz.func312.trans (congrArg some (by kernel_rfl))⟩,
  f34 := ⟨Tryz.f313.name, by decide, Tryz.func313.trans (congrArg some (by kernel_rfl))⟩,
  f35 := ⟨Tryz.f314.name, by decide, Tryz.func314.trans (congrArg some (by kernel_rfl))⟩,
  f40 := ⟨Tryz.f335.name, by decide, Tryz.func335.trans (congrArg some (by kernel_rfl))⟩,
  t0 := Tryz.underlying0,
  a0 := Tryz.isAgg0,
  z0 := Tryz.sizeOf0,
  v0 := Tryz.zeroValue0,
  t3 := Tryz.underlying3,
  a3 := Tryz.isAgg3,
  z3 := Tryz.sizeOf3,
  v3 := Tryz.zeroValue3,
  t4 := Tryz.underlying4,
  a4 := Tryz.isAgg4,
  z4 := Tryz.sizeOf4,
  v4 := Tryz.zeroValue4,
  t5 := Tryz.underlying5,
  a5 := Tryz.isAgg5,
  z5 := Tryz.sizeOf5,
  v5 := Tryz.zeroValue5,
  t9 := Tryz.underlying9,
  a9 := Tryz.isAgg9,
  z9 := Tryz.sizeOf9,
  v9 := Tryz.zeroValue9,
  t22 := Tryz.underlying146,
  a22 := Tryz.isAgg146,
  z22 := Tryz.sizeOf146,
  v22 := Tryz.zeroValue146,
  t23 := Tryz.underlying146,
  a23 := Tryz.isAgg146,
  z23 := Tryz.sizeOf146,
  v23 := Tryz.zeroValue146,
  t25 := Tryz.underlying3,
  a25 := Tryz.isAgg3,
  z25 := Tryz.sizeOf3,
  v25 := Tryz.zeroValue3,
  t32 := Tryz.underlying152,
  a32 := Tryz.isAgg152,
  z32 := Tryz.sizeOf152,
  v32 := Tryz.zeroValue152,
  t35 := Tryz.underlying227,
  a35 := Tryz.isAgg227,
  z35 := Tryz.sizeOf227,
  v35 := Tryz.zeroValue227,
  t36 := Tryz.underlying228,
  a36 := Tryz.isAgg228,
  z36 := Tryz.sizeOf228,
  v36 := Tryz.zeroValue228,
  t41 := Tryz.underlying138,
  a41 := Tryz.isAgg138,
  z41 := Tryz.sizeOf138,
  v41 := Tryz.zeroValue138,
  t44 := Tryz.underlying99,
  a44 := Tryz.isAgg99,
  z44 := Tryz.sizeOf99,
  v44 := Tryz.zeroValue99,
  t46 := Tryz.underlying37,
  a46 := Tryz.isAgg37,
  z46 := Tryz.sizeOf37,
  v46 := Tryz.zeroValue37,
  t53 := Tryz.underlying283,
  a53 := Tryz.isAgg283,
  z53 := Tryz.sizeOf283,
  v53 := Tryz.zeroValue283,
  t57 := Tryz.underlying286,
  a57 := Tryz.isAgg286,
  z57 := Tryz.sizeOf286,
  v57 := Tryz.zeroValue286,
  t63 := Tryz.underlying332,
  a63 := Tryz.isAgg332,
  z63 := Tryz.sizeOf332,
  v63 := Tryz.zeroValue332,
  t64 := Tryz.underlying333,
  a64 := Tryz.isAgg333,
  z64 := Tryz.sizeOf333,
  v64 := Tryz.zeroValue333 }
def L.keys145_ren : Go.Shelf.Ren := ⟨fun | 7 => 145 | 10 => 200 | n => n, fun | 23 => 245 | 26 => 3 | 3 => 3 | 28 => 240 | 0 => 0 | 27 => 239 | 33 => 295 | 4 => 4 | n => n, fun | n => n⟩
theorem L.keys145 : Go.Proofs.SlLaysZI.n7 Tryz.prog L.keys145_ren := {
  mixed := by kernel_rfl,
  f7 := ⟨Tryz.f145.name, by decide, Tryz.func145.trans (congrArg some (by kernel_rfl))⟩,
  f10 := ⟨Tryz.f200.name, by decide, Tryz.func200.trans (congrArg some (by kernel_rfl))⟩,
  t0 := Tryz.underlying0,
  a0 := Tryz.isAgg0,
  z0 := Tryz.sizeOf0,
  v0 := Tryz.zeroValue0,
  t4 := Tryz.underlying4,
  a4 := Tryz.isAgg4,
  z4 := Tryz.sizeOf4,
  v4 := Tryz.zeroValue4,
  t23 := Tryz.underlying245,
  a23 := Tryz.isAgg245,
  z23 := Tryz.sizeOf245,
  v23 := Tryz.zeroValue245,
  t26 := Tryz.underlying3,
  a26 := Tryz.isAgg3,
  z26 := Tryz.sizeOf3,
  v26 := Tryz.zeroValue3,
  t27 := Tryz.underlying239,
  a27 := Tryz.isAgg239,
  z27 := Tryz.sizeOf239,
  v27 := Tryz.zeroValue239,
  t28 := Tryz.underlying240,
  a28 := Tryz.isAgg240,
  z28 := Tryz.sizeOf240,
  v28 := Tryz.zeroValue240,
  t33 := Tryz.underlying295,
  a33 := Tryz.isAgg295,
  z33 := Tryz.sizeOf295,
  v33 := Tryz.zeroValue295 }
def L.keys304_ren : Go.Shelf.Ren := ⟨fun | 7 => 304 | 10 => 325 | n => n, fun | 23 => 85 | 26 => 3 | 3 => 117 | 28 => 240 | 0 => 0 | 27 => 239 | 33 => 295 | 4 => 4 | n => n, fun | n => n⟩
theorem L.keys304 : Go.Proofs.SlLaysZI.n7 Tryz.prog L.keys304_ren := {
  mixed := by kernel_rfl,
  f7 := ⟨Tryz.f304.name, by decide, Tryz.func304.trans (congrArg some (by kernel_rfl))⟩,
  f10 := ⟨Tryz.f325.name, by decide, Tryz.func325.trans (congrArg some (by kernel_rfl))⟩,
  t0 := Tryz.underlying0,
  a0 := Tryz.isAgg0,
  z0 := Tryz.sizeOf0,
  v0 := Tryz.zeroValue0,
  t4 := Tryz.underlying4,
  a4 := Tryz.isAgg4,
  z4 := Tryz.sizeOf4,
  v4 := Tryz.zeroValue4,
  t23 := Tryz.underlying85,
  a23 := Tryz.isAgg85,
  z23 := Tryz.sizeOf85,
  v23 := Tryz.zeroValue85,
  t26 := Tryz.underlying3,
  a26 := Tryz.isAgg3,
  z26 := Tryz.sizeOf3,
  v26 := Tryz.zeroValue3,
  t27 := Tryz.underlying239,
  a27 := Tryz.isAgg239,
  z27 := Tryz.sizeOf239,
  v27 := Tryz.zeroValue239,
  t28 := Tryz.underlying240,
  a28 := Tryz.isAgg240,
  z28 := Tryz.sizeOf240,
  v28 := Tryz.zeroValue240,
  t33 := Tryz.underlying295,
  a33 := Tryz.isAgg295,
  z33 := Tryz.sizeOf295,
  v33 := Tryz.zeroValue295 }
theorem L.sorts142 (m : Nat) : AnyZI.SortsIn Tryz.prog L.sorted142_ren Fence.wide m :=
  ⟨fun blk off cap ss W hH hblk hsz => callsIn_wide.2 (AnyM.slices_Sort_int L.sort197 blk off cap ss W hH hblk hsz),
   fun p cap W => callsIn_wide.2 (AnyM.slices_Sort_int_none L.sort197 p cap W)⟩
theorem L.sortedKeys143 : I.SortedKeys Tryz.prog 142 198 3 := I.sortedKeys_of L.keys143 L.sorted142 L.sorts142 (enters_of Tryz.func197 (by kernel_rfl) rfl)
theorem L.sortedKeys145 : I.SortedKeys Tryz.prog 142 200 3 := I.sortedKeys_of L.keys145 L.sorted142 L.sorts142 (enters_of Tryz.func197 (by kernel_rfl) rfl)
theorem L.sortedKeys304 : I.SortedKeys Tryz.prog 142 325 3 := I.sortedKeys_of L.keys304 L.sorted142 L.sorts142 (enters_of Tryz.func197 (by kernel_rfl) rfl)
end Go.Proofs.YtdjpokckamlccaaGreatDoor
namespace Go.Proofs.YtdjpokckamlccaaGreatDoor
open Go.Shelf Go.Proofs Go.RowKit
def Tryz.laysRepeat_ren : Go.Shelf.Ren := ⟨fun | 105 => 174 | 212 => 222 | 99 => 223 | 165 => 224 | 166 => 162 | 170 => 225 | 169 => 109 | 263 => 266 | 264 => 267 | 206 => 268 | 240 => 175 | 241 => 269 | 276 => 226 | 277 => 307 | n => n, fun | 9 => 9 | 3 => 3 | 4 => 4 | 20 => 20 | 0 => 0 | 46 => 152 | 109 => 311 | 5 => 5 | 72 => 198 | 76 => 203 | 51 => 99 | 146 => 358 | 53 => 37 | 148 => 360 | 70 => 196 | 37 => 154 | 75 => 202 | 127 => 273 | 164 => 315 | 80 => 177 | n => n, fun | n => n⟩
theorem Tryz.laysRepeat : Go.Proofs.Lays.n105 Tryz.prog Tryz.laysRepeat_ren := {
  mixed := by kernel_rfl,
  f99 := Tryz.func223.trans (congrArg some (by kernel_rfl)),
  f105 := Tryz.func174.trans (congrArg some (by kernel_rfl)),
  f165 := Tryz.func224.trans (congrArg some (by kernel_rfl)),
  f166 := Tryz.func162.trans (congrArg some (by kernel_rfl)),
  f169 := Tryz.func109.trans (congrArg some (by kernel_rfl)),
  f170 := Tryz.func225.trans (congrArg some (by kernel_rfl)),
  f206 := Tryz.func268.trans (congrArg some (by kernel_rfl)),
  f212 := Tryz.func222.trans (congrArg some (by kernel_rfl)),
  f240 := Tryz.func175.trans (congrArg some (by kernel_rfl)),
  f241 := Tryz.func269.trans (congrArg some (by kernel_rfl)),
  f263 := Tryz.func266.trans (congrArg some (by kernel_rfl)),
  f264 := Tryz.func267.trans (congrArg some (by kernel_rfl)),
  f276 := Tryz.func226.trans (congrArg some (by kernel_rfl)),
  f277 := Tryz.func307.trans (congrArg some (by kernel_rfl)),
  t0 := Tryz.underlying0,
  a0 := Tryz.isAgg0,
  z0 := Tryz.sizeOf0,
  v0 := Tryz.zeroValue0,
  t3 := Tryz.underlying3,
  a3 := Tryz.isAgg3,
  z3 := Tryz.sizeOf3,
  v3 := Tryz.zeroValue3,
  t4 := Tryz.underlying4,
  a4 := Tryz.isAgg4,
  z4 := Tryz.sizeOf4,
  v4 := Tryz.zeroValue4,
  t5 := Tryz.underlying5,
  a5 := Tryz.isAgg5,
  z5 := Tryz.sizeOf5,
  v5 := Tryz.zeroValue5,
  t9 := Tryz.underlying9,
  a9 := Tryz.isAgg9,
  z9 := Tryz.sizeOf9,
  v9 := Tryz.zeroValue9,
  t20 := Tryz.underlying20,
  a20 := Tryz.isAgg20,
  z20 := Tryz.sizeOf20,
  v20 := Tryz.zeroValue20,
  t37 := Tryz.underlying154,
  a37 := Tryz.isAgg154,
  z37 := Tryz.sizeOf154,
  v37 := Tryz.zeroValue154,
  t46 := Tryz.underlying152,
  a46 := Tryz.isAgg152,
  z46 := Tryz.sizeOf152,
  v46 := Tryz.zeroValue152,
  t51 := Tryz.underlying99,
  a51 := Tryz.isAgg99,
  z51 := Tryz.sizeOf99,
  v51 := Tryz.zeroValue99,
  t53 := Tryz.underlying37,
  a53 := Tryz.isAgg37,
  z53 := Tryz.sizeOf37,
  v53 := Tryz.zeroValue37,
  t70 := Tryz.underlying196,
  a70 := Tryz.isAgg196,
  z70 := Tryz.sizeOf196,
  v70 := Tryz.zeroValue196,
  t72 := Tryz.underlying198,
  a72 := Tryz.isAgg198,
  z72 := Tryz.sizeOf198,
  v72 := Tryz.zeroValue198,
  t75 := Tryz.underlying202,
  a75 := Tryz.isAgg202,
  z75 := Tryz.sizeOf202,
  v75 := Tryz.zeroValue202,
  t76 := Tryz.underlying203,
  a76 := Tryz.isAgg203,
  z76 := Tryz.sizeOf203,
  v76 := Tryz.zeroValue203,
  t109 := Tryz.underlying311,
  a109 := Tryz.isAgg311,
  z109 := Tryz.sizeOf311,
  v109 := Tryz.zeroValue311,
  t127 := Tryz.underlying273,
  a127 := Tryz.isAgg273,
  z127 := Tryz.sizeOf273,
  v127 := Tryz.zeroValue273,
  t146 := Tryz.underlying358,
  a146 := Tryz.isAgg358,
  z146 := Tryz.sizeOf358,
  v146 := Tryz.zeroValue358,
  t148 := Tryz.underlying360,
  a148 := Tryz.isAgg360,
  z148 := Tryz.sizeOf360,
  v148 := Tryz.zeroValue360,
  t164 := Tryz.underlying315,
  a164 := Tryz.isAgg315,
  z164 := Tryz.sizeOf315,
  v164 := Tryz.zeroValue315 }
theorem repExtra : Builder.Extra Tryz.prog Tryz.laysRepeat_ren := {
  sizeBuilder := by kernel_rfl,
  liesBuilder := by kernel_rfl,
  t5 := Tryz.laysRepeat.t5,
  a5 := Tryz.laysRepeat.a5,
  z5 := Tryz.laysRepeat.z5,
  v5 := Tryz.laysRepeat.v5,
  infoByte := by kernel_rfl,
  cellsByte := by kernel_rfl,
  sizeByte := by kernel_rfl,
  neB5 := by decide }
theorem fRepeat : Tryz.laysRepeat_ren.f 105 = 174 := by kernel_rfl
theorem repeatOk : I.RepeatOk Tryz.prog 174 := ⟨⟨_, _, Tryz.func174, rfl, rfl⟩, fun s c w hc hl => by
  have h := Any.strings_Repeat Tryz.laysRepeat repExtra s c w hc hl
  rw [fRepeat] at h
  exact h⟩
end Go.Proofs.YtdjpokckamlccaaGreatDoor
namespace Go.Proofs.YtdjpokckamlccaaGreatDoor
open Go.Shelf Go.Proofs
def L.keys67_ren : Go.Shelf.Ren := ⟨fun | 7 => 67 | 10 => 125 | n => n, fun | 23 => 108 | 26 => 9 | 3 => 3 | 28 => 143 | 0 => 0 | 27 => 142 | 33 => 67 | 4 => 4 | n => n, fun | n => n⟩
theorem L.keys67 : Go.Proofs.SlLaysZ.n7 Tryz.prog L.keys67_ren := {
  mixed := by kernel_rfl,
  f7 := ⟨Tryz.f67.name, by decide, Tryz.func67.trans (congrArg some (by kernel_rfl))⟩,
  f10 := ⟨Tryz.f125.name, by decide, Tryz.func125.trans (congrArg some (by kernel_rfl))⟩,
  t0 := Tryz.underlying0,
  a0 := Tryz.isAgg0,
  z0 := Tryz.sizeOf0,
  v0 := Tryz.zeroValue0,
  t4 := Tryz.underlying4,
  a4 := Tryz.isAgg4,
  z4 := Tryz.sizeOf4,
  v4 := Tryz.zeroValue4,
  t23 := Tryz.underlying108,
  a23 := Tryz.isAgg108,
  z23 := Tryz.sizeOf108,
  v23 := Tryz.zeroValue108,
  t26 := Tryz.underlying9,
  a26 := Tryz.isAgg9,
  z26 := Tryz.sizeOf9,
  v26 := Tryz.zeroValue9,
  t27 := Tryz.underlying142,
  a27 := Tryz.isAgg142,
  z27 := Tryz.sizeOf142,
  v27 := Tryz.zeroValue142,
  t28 := Tryz.underlying143,
  a28 := Tryz.isAgg143,
  z28 := Tryz.sizeOf143,
  v28 := Tryz.zeroValue143,
  t33 := Tryz.underlying67,
  a33 := Tryz.isAgg67,
  z33 := Tryz.sizeOf67,
  v33 := Tryz.zeroValue67 }
def L.sorted66_ren : Go.Shelf.Ren := ⟨fun | 6 => 66 | 8 => 123 | 9 => 124 | 11 => 184 | 13 => 70 | 12 => 185 | 23 => 134 | 24 => 135 | 14 => 234 | 15 => 235 | 16 => 236 | 17 => 237 | 18 => 238 | 19 => 239 | 20 => 240 | 21 => 241 | 22 => 242 | 25 => 276 | 26 => 187 | 27 => 188 | 28 => 277 | 29 => 278 | 30 => 279 | 31 => 310 | n => n, fun | 26 => 9 | 28 => 143 | 24 => 72 | 0 => 0 | 3 => 3 | 37 => 152 | 48 => 99 | 50 => 37 | 4 => 4 | 40 => 228 | 39 => 227 | 45 => 138 | 5 => 5 | 9 => 9 | 51 => 283 | 55 => 286 | 57 => 332 | 58 => 333 | 33 => 67 | n => n, fun | n => n⟩
theorem L.sorted66 : Go.Proofs.SlLaysZ.n6 Tryz.prog L.sorted66_ren := {
  mixed := by kernel_rfl,
  f6 := ⟨Tryz.f66.name, by decide, Tryz.func66.trans (congrArg some (by kernel_rfl))⟩,
  f8 := ⟨Tryz.f123.name, by decide, Tryz.func123.trans (congrArg some (by kernel_rfl))⟩,
  f11 := ⟨Tryz.f184.name, by decide, Tryz.func184.trans (congrArg some (by kernel_rfl))⟩,
  t0 := Tryz.underlying0,
  a0 := Tryz.isAgg0,
  z0 := Tryz.sizeOf0,
  v0 := Tryz.zeroValue0,
  t24 := Tryz.underlying72,
  a24 := Tryz.isAgg72,
  z24 := Tryz.sizeOf72,
  v24 := Tryz.zeroValue72,
  t26 := Tryz.underlying9,
  a26 := Tryz.isAgg9,
  z26 := Tryz.sizeOf9,
  v26 := Tryz.zeroValue9,
  t28 := Tryz.underlying143,
  a28 := Tryz.isAgg143,
  z28 := Tryz.sizeOf143,
  v28 := Tryz.zeroValue143,
  i26 := by kernel_rfl }
def L.sort124_ren : Go.Shelf.Ren := ⟨fun | 6 => 124 | 8 => 70 | 9 => 185 | 19 => 134 | 20 => 135 | 21 => 234 | 22 => 235 | 23 => 236 | 24 => 237 | 25 => 238 | 26 => 239 | 27 => 240 | 28 => 241 | 29 => 242 | 36 => 276 | 31 => 187 | 32 => 188 | 37 => 277 | 38 => 278 | 39 => 279 | 41 => 310 | n => n, fun | 27 => 72 | 29 => 9 | 3 => 3 | 32 => 152 | 26 => 72 | 0 => 0 | 44 => 99 | 46 => 37 | 4 => 4 | 36 => 228 | 35 => 227 | 41 => 138 | 5 => 5 | 9 => 9 | 53 => 283 | 57 => 286 | 63 => 332 | 64 => 333 | n => n, fun | n => n⟩
theorem L.sort124 : Go.Proofs.SlLaysM.n6 Tryz.prog L.sort124_ren := {
  mixed := by kernel_rfl,
  f6 := ⟨Tryz.f124.name, by decide, Tryz.func124.trans (congrArg some (by kernel_rfl))⟩,
  f8 := Tryz.func70.trans (congrArg some (by kernel_rfl)),
  f9 := ⟨Tryz.f185.name, by decide, Tryz.func185.trans (congrArg some (by kernel_rfl))⟩,
  f19 := Tryz.func134.trans (congrArg some (by kernel_rfl)),
  f20 := Tryz.func135.trans (congrArg some (by kernel_rfl)),
  f21 := ⟨Tryz.f234.name, by decide, Tryz.func234.trans (congrArg some (by kernel_rfl))⟩,
  f22 := ⟨Tryz.f235.name, by decide, Tryz.func235.trans (congrArg some (by kernel_rfl))⟩,
  f23 := ⟨Tryz.f236.name, by decide, Tryz.func236.trans (congrArg some (by kernel_rfl))⟩,
  f24 := ⟨Tryz.f237.name, by decide, Tryz.func237.trans (congrArg some (by kernel_rfl))⟩,
  f25 := ⟨Tryz.f238.name, by decide, Tryz.func238.trans (congrArg some (by kernel_rfl))⟩,
  f26 := ⟨Tryz.f239.name, by decide, Tryz.func239.trans (congrArg some (by kernel_rfl))⟩,
  f27 := ⟨Tryz.f240.name, by decide, Tryz.func240.trans (congrArg some (by kernel_rfl))⟩,
  f28 := ⟨Tryz.f241.name, by decide, Tryz.func241.trans (congrArg some (by kernel_rfl))⟩,
  f29 := ⟨Tryz.f242.name, by decide, Tryz.func242.trans (congrArg some (by kernel_rfl))⟩,
  f31 := Tryz.func187.trans (congrArg some (by kernel_rfl)),
  f32 := Tryz.func188.trans (congrArg some (by kernel_rfl)),
  f36 := ⟨Tryz.f276.name, by decide, Tryz.func276.trans (congrArg some (by kernel_rfl))⟩,
  f37 := ⟨Tryz.f277.name, by decide, Tryz.func277.trans (congrArg some (by kernel_rfl))⟩,
  f38 := ⟨Tryz.f278.name, by decide, Tryz.func278.trans (congrArg some (by kernel_rfl))⟩,
  f39 := ⟨Tryz.f279.name, by decide, Tryz.func279.trans (congrArg some (by kernel_rfl))⟩,
  f41 := ⟨Tryz.f310.name, by decide, Tryz.func310.trans (congrArg some (by kernel_rfl))⟩,
  t0 := Tryz.underlying0,
  a0 := Tryz.isAgg0,
  z0 := Tryz.sizeOf0,
  v0 := Tryz.zeroValue0,
  t3 := Tryz.underlying3,
  a3 := Tryz.isAgg3,
  z3 := Tryz.sizeOf3,
  v3 := Tryz.zeroValue3,
  t4 := Tryz.underlying4,
  a4 := Tryz.isAgg4,
  z4 := Tryz.sizeOf4,
  v4 := Tryz.zeroValue4,
  t5 := Tryz.underlying5,
  a5 := Tryz.isAgg5,
  z5 := Tryz.sizeOf5,
  v5 := Tryz.zeroValue5,
  t9 := Tryz.underlying9,
  a9 := Tryz.isAgg9,
  z9 := Tryz.sizeOf9,
  v9 := Tryz.zeroValue9,
  t26 := Tryz.underlying72,
  a26 := Tryz.isAgg72,
  z26 := Tryz.sizeOf72,
  v26 := Tryz.zeroValue72,
  t27 := Tryz.underlying72,
  a27 := Tryz.isAgg72,
  z27 := Tryz.sizeOf72,
  v27 := Tryz.zeroValue72,
  t29 := Tryz.underlying9,
  a29 := Tryz.isAgg9,
  z29 := Tryz.sizeOf9,
  v29 := Tryz.zeroValue9,
  t32 := Tryz.underlying152,
  a32 := Tryz.isAgg152,
  z32 := Tryz.sizeOf152,
  v32 := Tryz.zeroValue152,
  t35 := Tryz.underlying227,
  a35 := Tryz.isAgg227,
  z35 := Tryz.sizeOf227,
  v35 := Tryz.zeroValue227,
  t36 := Tryz.underlying228,
  a36 := Tryz.isAgg228,
  z36 := Tryz.sizeOf228,
  v36 := Tryz.zeroValue228,
  t41 := Tryz.underlying138,
  a41 := Tryz.isAgg138,
  z41 := Tryz.sizeOf138,
  v41 := Tryz.zeroValue138,
  t44 := Tryz.underlying99,
  a44 := Tryz.isAgg99,
  z44 := Tryz.sizeOf99,
  v44 := Tryz.zeroValue99,
  t46 := Tryz.underlying37,
  a46 := Tryz.isAgg37,
  z46 := Tryz.sizeOf37,
  v46 := Tryz.zeroValue37,
  t53 := Tryz.underlying283,
  a53 := Tryz.isAgg283,
  z53 := Tryz.sizeOf283,
  v53 := Tryz.zeroValue283,
  t57 := Tryz.underlying286,
  a57 := Tryz.isAgg286,
  z57 := Tryz.sizeOf286,
  v57 := Tryz.zeroValue286,
  t63 := Tryz.underlying332,
  a63 := Tryz.isAgg332,
  z63 := Tryz.sizeOf332,
  v63 := Tryz.zeroValue332,
  t64 := Tryz.underlying333,
  a64 := Tryz.isAgg333,
  z64 := Tryz.sizeOf333,
  v64 := Tryz.zeroValue333 }
theorem L.sorts66 (m : Nat) : AnyZ.SortsIn Tryz.prog L.sorted66_ren Fence.wide m :=
  ⟨fun blk off cap ss W hH hblk hsz => callsIn_wide.2 (AnyM.slices_Sort_string L.sort124 blk off cap ss W hH hblk hsz),
   fun p cap W => callsIn_wide.2 (AnyM.slices_Sort_string_none L.sort124 p cap W)⟩
theorem L.sortedKeys67 : I.SortedKeysS Tryz.prog 66 125 9 := I.sortedKeysS_of L.keys67 L.sorted66 L.sorts66 (enters_of Tryz.func124 (by kernel_rfl) rfl)
end Go.Proofs.YtdjpokckamlccaaGreatDoor
