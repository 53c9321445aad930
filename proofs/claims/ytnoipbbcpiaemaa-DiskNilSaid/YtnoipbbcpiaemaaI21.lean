import Derived.Test.YtnoipbbcpiaemaaI20
namespace Go.Proofs.Ytnoipbbcpiaemaa
namespace I
open K (one aggB run_underlying' run_sizeOf' add_none run_v cell_cells)
set_option linter.unusedVariables false

/-! ### Code -/
abbrev St := AV × AV × Nat

inductive Ex where
  | normal
  | exit (id : Nat)
  | ret

def Ex.to : Ex → Exit
  | .normal => .normal
  | .exit id => .exit id
  | .ret => .ret

/-- Operations in the text's order. -/
def opsA (P : Program) (G n d : Nat) (K : KF) (ops : Array Oper) : List Oper → AV → AV → Nat → Option St
  | [], tm, h, nx => some (tm, h, nx)
  | o :: l, tm, h, nx => match wantA n d ops tm o with
    | none => none
    | some false => opsA P G n d K ops l (putA n d tm o.dst .undef) h nx
    | some true => match astep P (opndA G n d tm) h nx o with
      | some (.val v h' nx') => opsA P G n d K ops l (putA n d tm o.dst v) h' nx'
      | some (.call f args) => match K f args h nx with
        | some (v, h', nx') => opsA P G n d K ops l (putA n d tm o.dst v) h' nx'
        | none => none
      | none => none

def edgesOk (ops : Array Oper) : Bool := ops.all fun o => o.after.all fun e => Nat.blt e.on ops.size

def regA (P : Program) (G n d : Nat) (K : KF) (ops : Array Oper) (tm h : AV) (nx : Nat) : Option St :=
  bif P.follows .mixedOrders && (edgesOk ops && Nat.ble (nx + ops.size) (2 ^ HD)) then
    match drawnA ⟨P, G, n, d, K, ops, nx, lg ops.size⟩ ops.size (Array.replicate ops.size false) ⟨tm, h, nx + ops.size, unid (lg ops.size) .undef, unid (lg ops.size) .undef⟩ with
    | some s => some (s.tm, (merge (lg ops.size) nx (List.range ops.size) s.h s.pt).1, s.nx)
    | none => none
  else none

def loopI (f : St → Option (Ex × St)) : Nat → St → Option (Ex × St)
  | 0, _ => none
  | k + 1, st => match f st with
    | some (.normal, st') => loopI f k st'
    | r => r

def execC (P : Program) (G n d : Nat) (K : KF) (N : Nat) : Code → St → Option (Ex × St)
  | .skip, st => some (.normal, st)
  | .label _, st => some (.normal, st)
  | .region _ ops draw, st => bif draw then
      match regA P G n d K ops st.1 st.2.1 st.2.2 with
      | some st' => some (.normal, st')
      | none => none
    else match opsA P G n d K ops ops.toList st.1 st.2.1 st.2.2 with
      | some st' => some (.normal, st')
      | none => none
  | .seq a b, st => match execC P G n d K N a st with
    | some (.normal, st') => execC P G n d K N b st'
    | r => r
  | .cond c a b, st => match opndA G n d st.1 c with
    | .bool true => execC P G n d K N a st
    | .bool false => execC P G n d K N b st
    | _ => none
  | .block id b, st => match execC P G n d K N b st with
    | some (.exit j, st') => bif Nat.beq j id then some (.normal, st') else some (.exit j, st')
    | r => r
  | .loop b, st => loopI (fun s => execC P G n d K N b s) N st
  | .exit id, st => some (.exit id, st)
  | .ret, st => some (.ret, st)
  | _, _ => none

section
variable {P : Program} {G n d N : Nat} {K : KF} {w0 : World} {B : Fr}

def KOk' (P : Program) (G : Nat) (K : KF) : Prop := ∀ f args h nx v h' nx', K f args h nx = some (v, h', nx') → CallOk P G f args h nx v h' nx'

/-- What a state stands for. -/
structure Sim (n d G : Nat) (w0 : World) (B : Fr) (σ : Sg) (st : St) (a : Act) (w : World) : Prop where
  sl : SlotRel σ n d st.1 a
  g : GRel σ G
  hs : HS σ st.2.1 st.2.2 w0 B w

def Then (σ : Sg) (st st' : St) (σ' : Sg) : Prop := SubX st.2.2 σ σ' ∧ Dk st.2.2 st.2.1 st'.2.1 ∧ st.2.2 ≤ st'.2.2

theorem Then.refl (σ : Sg) (st : St) : Then σ st st σ := ⟨SubX.refl _ _, Dk.refl _ _, Nat.le_refl _⟩
theorem Then.trans {σ σ1 σ2 : Sg} {s s1 s2 : St} (a : Then σ s s1 σ1) (b : Then σ1 s1 s2 σ2) : Then σ s s2 σ2 := ⟨a.1.trans b.1 a.2.2, a.2.1.trans b.2.1 a.2.2, Nat.le_trans a.2.2 b.2.2⟩

theorem opsA_ok (hK : KOk' P G K) {ops : Array Oper} {Q : Exit → Act → World → Prop} : ∀ (l : List Oper) (tm h : AV) (nx : Nat) (st' : St) (σ : Sg) (a : Act) (w : World), opsA P G n d K ops l tm h nx = some st' → Sim n d G w0 B σ (tm, h, nx) a w →
    (∀ σ' a' w', Then σ (tm, h, nx) st' σ' → Sim n d G w0 B σ' st' a' w' → Q .normal a' w') → wpList P ops Q l a w
  | [], tm, h, nx, st', σ, a, w, hh, S, hQ => by
    simp only [opsA, Option.some.injEq] at hh
    subst hh
    exact hQ σ a w (Then.refl _ _) S
  | o :: l, tm, h, nx, st', σ, a, w, hh, S, hQ => by
    unfold opsA at hh
    unfold wpList
    split at hh
    · cases hh
    · rename_i hw
      rw [wantA_ok S.sl hw]
      simp only [Bool.false_eq_true, if_false]
      exact opsA_ok hK l _ h nx st' σ _ w hh ⟨put_ok S.sl .undef, S.g, S.hs⟩ (fun σ' a' w' ht S' => hQ σ' a' w' ht S')
    · rename_i hw
      rw [wantA_ok S.sl hw]
      simp only [if_true]
      refine .inl ?_
      have hρ := opnd_ok S.sl S.g
      split at hh
      · rename_i v h' nx' hs
        obtain ⟨σ1, u, w1, g1, g2, g3, g4, g5, g6⟩ := astep_ok S.hs (fun _ => rfl) hρ hs
        have S1 : Sim n d G w0 B σ1 (putA n d tm o.dst v, h', nx') (a.put o.dst u) w1 := ⟨put_ok (S.sl.mono g1.1) g5, S.g.mono g1.1, g6⟩
        have T1 : Then σ (tm, h, nx) (putA n d tm o.dst v, h', nx') σ1 := ⟨g1, g2, g3⟩
        have := opsA_ok hK l _ h' nx' st' σ1 _ w1 hh S1 (fun σ' a' w' ht S' => hQ σ' a' w' (T1.trans ht) S')
        unfold Oper.wp
        rcases g4 with g4 | ⟨g4, rfl⟩
        · rw [g4]; exact this
        · rw [g4]; exact this
      · rename_i f args hs
        split at hh
        · rename_i v h' nx' hk
          obtain ⟨⟨fn, c, c1, c2, c3⟩, hcall⟩ := hK f args h nx v h' nx' hk
          obtain ⟨vs, g1, g2⟩ := acallee_ok (P := P) (w := w) hρ (astep_call hs) c1 c2 c3
          unfold Oper.wp
          rw [g2]
          refine (hcall σ w0 B w vs S.hs S.g g1).mono ?_
          rintro e w1 ⟨σ1, u, k1, k2, k3, rfl, k5, k6⟩
          have S1 : Sim n d G w0 B σ1 (putA n d tm o.dst v, h', nx') (a.put o.dst u) w1 := ⟨put_ok (S.sl.mono k1.1) k5, S.g.mono k1.1, k6⟩
          have T1 : Then σ (tm, h, nx) (putA n d tm o.dst v, h', nx') σ1 := ⟨k1, k2, k3⟩
          exact opsA_ok hK l _ h' nx' st' σ1 _ w1 hh S1 (fun σ' a' w' ht S' => hQ σ' a' w' (T1.trans ht) S')
        · cases hh
      · cases hh

theorem regA_ok (hK : KOk' P G K) (hn : n ≤ 2 ^ d) {id : Nat} {ops : Array Oper} {Q : Exit → Act → World → Prop} {tm h : AV} {nx : Nat} {st' : St} {σ : Sg} {a : Act} {w : World} (hh : regA P G n d K ops tm h nx = some st') (S : Sim n d G w0 B σ (tm, h, nx) a w)
    (hQ : ∀ σ' a' w', Then σ (tm, h, nx) st' σ' → Sim n d G w0 B σ' st' a' w' → Q .normal a' w') : (Code.region id ops true).wp P Q a w := by
  unfold regA at hh
  cases hb : (P.follows .mixedOrders && (edgesOk ops && Nat.ble (nx + ops.size) (2 ^ HD))) with
  | false => simp [hb] at hh
  | true =>
    simp only [hb, cond_true] at hh
    simp only [Bool.and_eq_true] at hb
    obtain ⟨hm, hed, hle⟩ := hb
    have hle := ble_iff.1 hle
    split at hh
    · rename_i F hF
      simp only [Option.some.injEq] at hh
      subst hh
      let C : DC := ⟨P, G, n, d, K, ops, nx, lg ops.size⟩
      have hpd : C.ops.size ≤ 2 ^ C.pd := lg_le _
      have hedge : ∀ (j : Nat) o, C.ops[j]? = some o → ∀ e ∈ o.after, e.on < C.ops.size := fun j o ho e he => by
        have h1 := Array.all_eq_true_iff_forall_mem.1 hed o (Array.mem_of_getElem? ho)
        exact blt_iff.1 (Array.all_eq_true_iff_forall_mem.1 h1 e he)
      have hcl : Closed C.ops (Array.replicate ops.size false) := fun k hk => by
        by_cases hlt : k < ops.size
        · simp [hlt] at hk
        · simp [hlt] at hk
      have hclean : CleanAll C (Array.replicate ops.size false) ⟨tm, h, nx + ops.size, unid (lg ops.size) .undef, unid (lg ops.size) .undef⟩ := fun k hk _ => ⟨cget_unid _ _ _, cget_unid _ _ _⟩
      have hgood := drawnA_good (C := C) (F := F) hn hpd ops.size _ _ hcl hclean hF
      have hH := (S.hs.skip (Nat.le_add_right nx ops.size) hle).drew
      have S0 : DSim C w0 B h σ ⟨tm, h, nx + ops.size, unid (lg ops.size) .undef, unid (lg ops.size) .undef⟩ (Array.replicate ops.size false) a { w with drawn := w.drawn + 1 } := by
        refine ⟨S.sl, S.g, ⟨hH, Nat.le_refl _, fun k hk hl => ?_, fun k k' p p' hk hk' hne hl => ?_⟩, fun k hk _ => ?_, Dk.refl _ _⟩
        · rw [cget_unid] at hl; simp [live] at hl
        · rw [cget_unid] at hl; simp [live] at hl
        · cases hx : σ (nx + k) with
          | none => rfl
          | some p => have := S.hs.dom _ p hx; simp only at this; omega
      refine wp_region_any hm (good_wp (C := C) (F := F) hK hpd hedge ops.size _ _ σ a _ hgood S0 ?_)
      intro σ' l' a' w' hx SF
      have M := SF.m.merge hpd (l := List.range ops.size) (fun j hj => List.mem_range.1 hj)
      refine hQ σ' a' w' ⟨⟨hx.1, fun b hb => hx.2 b hb⟩, ?_, ?_⟩ ⟨SF.sl, SF.g, M.hs⟩
      · exact SF.dk.trans (merge_dk hle (fun j hj => List.mem_range.1 hj)) (Nat.le_refl _)
      · have := SF.m.nx
        show nx ≤ F.nx
        have h2 : nx + ops.size ≤ F.nx := this
        omega
    · cases hh

/-- What code comes to. -/
def Post (n d G : Nat) (w0 : World) (B : Fr) (σ : Sg) (st : St) (e : Ex) (st' : St) : Exit → Act → World → Prop :=
  fun e' a' w' => e' = e.to ∧ ∃ σ', Then σ st st' σ' ∧ Sim n d G w0 B σ' st' a' w'

theorem loopI_ok {b : Code} {f : St → Option (Ex × St)} (hb : ∀ st e st' σ a w, f st = some (e, st') → Sim n d G w0 B σ st a w → b.wp P (Post n d G w0 B σ st e st') a w) :
    ∀ (k : Nat) (st : St) (e : Ex) (st' : St) (σ : Sg) (a : Act) (w : World), loopI f k st = some (e, st') → Sim n d G w0 B σ st a w → (Code.loop b).wp P (Post n d G w0 B σ st e st') a w := by
  intro k st e st' σ a w hh S
  refine wp_loop_ghost (fun m a1 w1 => ∃ st1 σ1, loopI f m st1 = some (e, st') ∧ Then σ st st1 σ1 ∧ Sim n d G w0 B σ1 st1 a1 w1) k ⟨st, σ, hh, Then.refl _ _, S⟩ ?_
  rintro m a1 w1 ⟨st1, σ1, h1, T1, S1⟩
  cases m with
  | zero => simp [loopI] at h1
  | succ m =>
    unfold loopI at h1
    split at h1
    · rename_i st2 h2
      refine wp_mono (hb st1 .normal st2 σ1 a1 w1 h2 S1) ?_
      rintro e2 a2 w2 ⟨rfl, σ2, T2, S2⟩
      exact ⟨m, Nat.lt_succ_self m, st2, σ2, h1, T1.trans T2, S2⟩
    · rename_i r hne
      refine wp_mono (hb st1 e st' σ1 a1 w1 h1 S1) ?_
      rintro e2 a2 w2 ⟨rfl, σ2, T2, S2⟩
      have hnn : e.to ≠ .normal := by
        cases e with
        | normal => exact absurd h1 (hne st')
        | exit id => simp [Ex.to]
        | ret => simp [Ex.to]
      cases e with
      | normal => exact absurd rfl hnn
      | exit id => exact ⟨rfl, σ2, T1.trans T2, S2⟩
      | ret => exact ⟨rfl, σ2, T1.trans T2, S2⟩

theorem execC_ok (hK : KOk' P G K) (hn : n ≤ 2 ^ d) : ∀ (c : Code) (st : St) (e : Ex) (st' : St) (σ : Sg) (a : Act) (w : World), execC P G n d K N c st = some (e, st') → Sim n d G w0 B σ st a w → c.wp P (Post n d G w0 B σ st e st') a w := by
  intro c
  induction c with
  | skip =>
    intro st e st' σ a w hh S
    simp only [execC, Option.some.injEq, Prod.mk.injEq] at hh
    obtain ⟨rfl, rfl⟩ := hh
    exact wp_skip ⟨rfl, σ, Then.refl _ _, S⟩
  | label l =>
    intro st e st' σ a w hh S
    simp only [execC, Option.some.injEq, Prod.mk.injEq] at hh
    obtain ⟨rfl, rfl⟩ := hh
    exact wp_label ⟨rfl, σ, Then.refl _ _, S⟩
  | region id ops draw =>
    intro st e st' σ a w hh S
    obtain ⟨tm, h, nx⟩ := st
    simp only [execC] at hh
    cases draw with
    | true =>
      simp only [cond_true] at hh
      split at hh
      · rename_i st1 h1
        simp only [Option.some.injEq, Prod.mk.injEq] at hh
        obtain ⟨rfl, rfl⟩ := hh
        exact regA_ok hK hn h1 S (fun σ' a' w' T S' => ⟨rfl, σ', T, S'⟩)
      · cases hh
    | false =>
      simp only [cond_false] at hh
      split at hh
      · rename_i st1 h1
        simp only [Option.some.injEq, Prod.mk.injEq] at hh
        obtain ⟨rfl, rfl⟩ := hh
        exact wp_region_list (opsA_ok hK _ tm h nx st1 σ a w h1 S (fun σ' a' w' T S' => ⟨rfl, σ', T, S'⟩))
      · cases hh
  | seq x y ihx ihy =>
    intro st e st' σ a w hh S
    simp only [execC] at hh
    refine wp_seq ?_
    split at hh
    · rename_i st1 h1
      refine wp_mono (ihx st .normal st1 σ a w h1 S) ?_
      rintro e1 a1 w1 ⟨rfl, σ1, T1, S1⟩
      refine wp_mono (ihy st1 e st' σ1 a1 w1 hh S1) ?_
      rintro e2 a2 w2 ⟨rfl, σ2, T2, S2⟩
      exact ⟨rfl, σ2, T1.trans T2, S2⟩
    · rename_i r hne
      refine wp_mono (ihx st e st' σ a w hh S) ?_
      rintro e1 a1 w1 ⟨rfl, σ1, T1, S1⟩
      cases e with
      | normal => exact absurd hh (hne st')
      | exit id => exact ⟨rfl, σ1, T1, S1⟩
      | ret => exact ⟨rfl, σ1, T1, S1⟩
  | cond c x y ihx ihy =>
    intro st e st' σ a w hh S
    simp only [execC] at hh
    have hc := opnd_ok S.sl S.g c
    split at hh
    · rename_i he
      rw [he] at hc
      generalize hcv : a.eval c = cv at hc
      cases hc
      exact wp_cond_true hcv (ihx st e st' σ a w hh S)
    · rename_i he
      rw [he] at hc
      generalize hcv : a.eval c = cv at hc
      cases hc
      exact wp_cond_false hcv (ihy st e st' σ a w hh S)
    · cases hh
  | block id b ih =>
    intro st e st' σ a w hh S
    simp only [execC] at hh
    refine wp_block ?_
    split at hh
    · rename_i j st1 h1
      refine wp_mono (ih st (.exit j) st1 σ a w h1 S) ?_
      rintro e1 a1 w1 ⟨rfl, σ1, T1, S1⟩
      cases hb : Nat.beq j id with
      | true =>
        simp only [hb, cond_true, Option.some.injEq, Prod.mk.injEq] at hh
        obtain ⟨rfl, rfl⟩ := hh
        show (if j = id then _ else _)
        rw [if_pos (beqn_iff.1 hb)]
        exact ⟨rfl, σ1, T1, S1⟩
      | false =>
        simp only [hb, cond_false, Option.some.injEq, Prod.mk.injEq] at hh
        obtain ⟨rfl, rfl⟩ := hh
        show (if j = id then _ else _)
        rw [if_neg (fun e => by rw [beqn_iff.2 e] at hb; cases hb)]
        exact ⟨rfl, σ1, T1, S1⟩
    · rename_i r hne
      refine wp_mono (ih st e st' σ a w hh S) ?_
      rintro e1 a1 w1 ⟨rfl, σ1, T1, S1⟩
      cases e with
      | normal => exact ⟨rfl, σ1, T1, S1⟩
      | exit j => exact absurd hh (hne j st')
      | ret => exact ⟨rfl, σ1, T1, S1⟩
  | loop b ih =>
    intro st e st' σ a w hh S
    simp only [execC] at hh
    exact loopI_ok ih N st e st' σ a w hh S
  | exit id =>
    intro st e st' σ a w hh S
    simp only [execC, Option.some.injEq, Prod.mk.injEq] at hh
    obtain ⟨rfl, rfl⟩ := hh
    exact wp_exit ⟨rfl, σ, Then.refl _ _, S⟩
  | ret =>
    intro st e st' σ a w hh S
    simp only [execC, Option.some.injEq, Prod.mk.injEq] at hh
    obtain ⟨rfl, rfl⟩ := hh
    exact wp_ret ⟨rfl, σ, Then.refl _ _, S⟩
  | _ => intro st e st' σ a w hh S; simp [execC] at hh

end
end I
end Go.Proofs.Ytnoipbbcpiaemaa
