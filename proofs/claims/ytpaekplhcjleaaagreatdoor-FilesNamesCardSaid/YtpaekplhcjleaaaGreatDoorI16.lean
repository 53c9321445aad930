import Derived.Test.YtpaekplhcjleaaaGreatDoorI15
namespace Go.Proofs.YtpaekplhcjleaaaGreatDoor
namespace I
open K (one aggB run_underlying' run_sizeOf' add_none run_v cell_cells)
set_option linter.unusedVariables false

/-! ### Two places of a tree -/
theorem cput_comm : ∀ (d : Nat) (t : AV) (i j : Nat) (x y : AV), i < 2 ^ d → j < 2 ^ d → i ≠ j → cput d (cput d t i x) j y = cput d (cput d t j y) i x
  | 0, t, i, j, x, y, hi, hj, hne => by simp only [Nat.pow_zero] at hi hj; omega
  | d + 1, t, i, j, x, y, hi, hj, hne => by
    have hp : 2 ^ (d + 1) = 2 ^ d + 2 ^ d := by rw [Nat.pow_succ]; omega
    cases h1 : Nat.blt i (2 ^ d) <;> cases h2 : Nat.blt j (2 ^ d) <;> simp only [cput, h1, h2, cond_true, cond_false, kidL, kidR]
    · have a1 := blt_false.1 h1
      have a2 := blt_false.1 h2
      rw [cput_comm d _ _ _ x y (by omega) (by omega) (by omega)]
    · have a1 := blt_iff.1 h1
      have a2 := blt_iff.1 h2
      rw [cput_comm d _ _ _ x y a1 a2 hne]

/-! ### Equal values -/
def beqA : AV → AV → Bool
  | .undef, .undef => true
  | .bool a, .bool b => a == b
  | .int k a, .int k' b => Nat.beq (kn k) (kn k') && ieq a b
  | .str n x, .str m y => Nat.beq n m && Nat.beq x y
  | .nilp, .nilp => true
  | .ptr a b, .ptr c d => Nat.beq a c && Nat.beq b d
  | .nils, .nils => true
  | .sl a b c d e, .sl a' b' c' d' e' => Nat.beq a a' && (Nat.beq b b' && (Nat.beq c c' && (Nat.beq d d' && Nat.beq e e')))
  | .nilm, .nilm => true
  | .map a, .map b => Nat.beq a b
  | .nilf, .nilf => true
  | .fn f a b, .fn g c d => Nat.beq f g && (beqA a c && beqA b d)
  | .nili, .nili => true
  | .yld a, .yld b => Nat.beq a b
  | .ifc t a, .ifc u b => Nat.beq t u && beqA a b
  | .agg n t, .agg m u => Nat.beq n m && beqA t u
  | .tup a, .tup b => beqA a b
  | .lnil, .lnil => true
  | .lcons a b, .lcons c d => beqA a c && beqA b d
  | .node a b, .node c d => beqA a c && beqA b d
  | .uni a, .uni b => beqA a b
  | _, _ => false

theorem beqA_ok : ∀ (x y : AV), beqA x y = true → x = y := by
  intro x
  induction x with
  | bad => intro y h; cases y <;> simp [beqA] at h
  | undef => intro y h; cases y <;> simp [beqA] at h; rfl
  | bool b => intro y h; cases y <;> simp [beqA] at h; rw [h]
  | int k n =>
    intro y h
    cases y <;> simp only [beqA, Bool.and_eq_true, Bool.false_eq_true] at h
    obtain ⟨h1, h2⟩ := h
    rw [ieq_eq] at h2
    rw [kn_inj h1, of_decide_eq_true h2]
  | str n x => intro y h; cases y <;> simp only [beqA, Bool.and_eq_true, Bool.false_eq_true] at h; rw [beqn_iff.1 h.1, beqn_iff.1 h.2]
  | nilp => intro y h; cases y <;> simp [beqA] at h; rfl
  | ptr a b => intro y h; cases y <;> simp only [beqA, Bool.and_eq_true, Bool.false_eq_true] at h; rw [beqn_iff.1 h.1, beqn_iff.1 h.2]
  | nils => intro y h; cases y <;> simp [beqA] at h; rfl
  | sl a b c d e => intro y h; cases y <;> simp only [beqA, Bool.and_eq_true, Bool.false_eq_true] at h; rw [beqn_iff.1 h.1, beqn_iff.1 h.2.1, beqn_iff.1 h.2.2.1, beqn_iff.1 h.2.2.2.1, beqn_iff.1 h.2.2.2.2]
  | nilm => intro y h; cases y <;> simp [beqA] at h; rfl
  | map a => intro y h; cases y <;> simp only [beqA, Bool.false_eq_true] at h; rw [beqn_iff.1 h]
  | nilf => intro y h; cases y <;> simp [beqA] at h; rfl
  | fn f a b iha ihb => intro y h; cases y <;> simp only [beqA, Bool.and_eq_true, Bool.false_eq_true] at h; rw [beqn_iff.1 h.1, iha _ h.2.1, ihb _ h.2.2]
  | nili => intro y h; cases y <;> simp [beqA] at h; rfl
  | ifc t a iha => intro y h; cases y <;> simp only [beqA, Bool.and_eq_true, Bool.false_eq_true] at h; rw [beqn_iff.1 h.1, iha _ h.2]
  | agg n t iht => intro y h; cases y <;> simp only [beqA, Bool.and_eq_true, Bool.false_eq_true] at h; rw [beqn_iff.1 h.1, iht _ h.2]
  | tup a iha => intro y h; cases y <;> simp only [beqA, Bool.false_eq_true] at h; rw [iha _ h]
  | lnil => intro y h; cases y <;> simp [beqA] at h; rfl
  | lcons a b iha ihb => intro y h; cases y <;> simp only [beqA, Bool.and_eq_true, Bool.false_eq_true] at h; rw [iha _ h.1, ihb _ h.2]
  | node a b iha ihb => intro y h; cases y <;> simp only [beqA, Bool.and_eq_true, Bool.false_eq_true] at h; rw [iha _ h.1, ihb _ h.2]
  | uni a iha => intro y h; cases y <;> simp only [beqA, Bool.false_eq_true] at h; rw [iha _ h]
  | dead => intro y h; cases y <;> simp [beqA] at h
  | cells ty n ro t _ => intro y h; cases y <;> simp [beqA] at h
  | mp l _ => intro y h; cases y <;> simp [beqA] at h
  | yld b => intro y h; cases y <;> simp only [beqA, Bool.false_eq_true] at h; rw [beqn_iff.1 h]
  | lp n ps assign body tm st pend db _ => intro y h; cases y <;> simp [beqA] at h
  | df => intro y h; cases y <;> simp [beqA] at h

/-! ### A region that draws its order -/

/-- What an operation looks at. -/
def snap (n d : Nat) (tm : AV) : List Nat → List AV
  | [] => []
  | t :: l => (bif Nat.blt t n then cget d tm t else .undef) :: snap n d tm l

def pickS (t : Nat) : List Nat → List AV → AV
  | s :: l, v :: vs => bif Nat.beq s t then v else pickS t l vs
  | _, _ => .bad

def opndS (G : Nat) (ls : List Nat) (vs : List AV) : Operand → AV
  | .tmp t => pickS t ls vs
  | .const v => ofConst v
  | .global g => bif Nat.blt g G then .ptr g 0 else .bad
  | .func f => .fn f .lnil .lnil

section
variable {P : Program} {σ : Sg} {G n d : Nat} {tm : AV} {a : Act}

theorem pickS_ok {ds : List Deferred} (hs : SlotRel ds σ n d tm a) (t : Nat) : ∀ (l : List Nat), Rel σ (pickS t l (snap n d tm l)) (a.eval (.tmp t))
  | [] => .bad _
  | s :: l => by
    simp only [snap, pickS]
    cases hb : Nat.beq s t with
    | false => simp only [cond_false]; exact pickS_ok hs t l
    | true =>
      have := beqn_iff.1 hb
      subst this
      simp only [cond_true]
      exact opnd_ok (G := 0) hs (fun g hg => by omega) (.tmp s)

theorem opndS_ok {ds : List Deferred} (hs : SlotRel ds σ n d tm a) (hg : GRel σ G) (l : List Nat) (x : Operand) : Rel σ (opndS G l (snap n d tm l) x) (a.eval x) := by
  cases x with
  | tmp t => exact pickS_ok hs t l
  | const v => exact opnd_ok hs hg (.const v)
  | global g => exact opnd_ok hs hg (.global g)
  | func f => exact opnd_ok hs hg (.func f)

theorem snap_put {dst : Option Nat} {v : AV} (hn : n ≤ 2 ^ d) : ∀ {l : List Nat}, (∀ t, dst = some t → t ∉ l) → snap n d (putA n d tm dst v) l = snap n d tm l
  | [], _ => rfl
  | s :: l, h => by
    simp only [snap]
    rw [snap_put hn (l := l) (fun t ht hm => h t ht (List.mem_cons_of_mem _ hm))]
    congr 1
    cases dst with
    | none => rfl
    | some t =>
      have hne : s ≠ t := fun e => h t rfl (by rw [e]; exact List.mem_cons_self ..)
      cases hb : Nat.blt s n with
      | false => rfl
      | true =>
        have hs := blt_iff.1 hb
        simp only [cond_true, putA]
        cases hc : Nat.blt t n with
        | false => rfl
        | true =>
          have ht := blt_iff.1 hc
          simp only [cond_true]
          rw [cget_cput d tm t s v (by omega) (by omega), if_neg hne]

theorem wantA_put {dst : Option Nat} {v : AV} (hn : n ≤ 2 ^ d) {ops : Array Oper} {o : Oper} (h : ∀ t, dst = some t → t ∉ o.looksAt ops) : wantA n d ops (putA n d tm dst v) o = wantA n d ops tm o := by
  unfold wantA
  split
  · rfl
  · rename_i j want hg
    split
    · rfl
    · rename_i t ht
      have hmem : t ∈ o.looksAt ops := by
        unfold Oper.looksAt
        rw [hg]
        simp [ht]
      cases hb : Nat.blt t n with
      | false => rfl
      | true =>
        simp only [cond_true]
        have hlt := blt_iff.1 hb
        have : cget d (putA n d tm dst v) t = cget d tm t := by
          cases dst with
          | none => rfl
          | some u =>
            have hne : t ≠ u := fun e => h u rfl (e ▸ hmem)
            simp only [putA]
            cases hc : Nat.blt u n with
            | false => rfl
            | true =>
              have hu := blt_iff.1 hc
              simp only [cond_true]
              rw [cget_cput d tm u t v (by omega) (by omega), if_neg hne]
        rw [this]

theorem putA_comm {i j : Option Nat} {x y : AV} (hn : n ≤ 2 ^ d) (h : ∀ t, i = some t → j ≠ some t) : putA n d (putA n d tm i x) j y = putA n d (putA n d tm j y) i x := by
  cases i with
  | none => rfl
  | some s =>
    cases j with
    | none => rfl
    | some t =>
      have hne : s ≠ t := fun e => h s rfl (by rw [e])
      simp only [putA]
      cases hb : Nat.blt s n <;> cases hc : Nat.blt t n <;> simp only [cond_true, cond_false]
      exact cput_comm d tm s t x y (by have := blt_iff.1 hb; omega) (by have := blt_iff.1 hc; omega) hne

end
end I
end Go.Proofs.YtpaekplhcjleaaaGreatDoor
