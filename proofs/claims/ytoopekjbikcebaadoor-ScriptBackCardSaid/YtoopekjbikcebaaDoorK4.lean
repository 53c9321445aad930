/- The quiet operations of a region, guards and all, in the text's order or (where the region draws its order) in any order that its edges allow. -/
import Derived.Test.YtoopekjbikcebaaDoorK3
import Derived.TacticsIn
import Derived.OrdersIn
namespace Go.Proofs.YtoopekjbikcebaaDoor
namespace K

/-- How an operation is taken: what is known of its guard (0: nothing, 1: it says yes, 2: it says no); whether its value is given with its run; the value. -/
abbrev Dir := Nat × Bool × Option Value

def chainP (Γ : Env) : Ch → Prop → Prop
  | [], q => q
  | (t, b) :: ch, q => match find Γ t with
    | some e => e.2 = .bool b → chainP Γ ch q
    | none => chainP Γ ch q

def step1 (P : Program) (S : World → Prop) (n : Nat) (ops : Array Oper) (Γ : Env) (o : Oper) (d : Dir) : Option (Env × List Prop) :=
  match o.dst with
  | none => none
  | some t =>
    bif Nat.blt t n then
      match o.guard with
      | none => (evOp P S Γ [] o d.2.1 d.2.2).map fun r => (put Γ t [] r.1, r.2)
      | some (j, want) =>
        match (ops[j]?).bind (·.dst) with
        | none => none
        | some tj => match find Γ tj with
          | none => none
          | some e => match d.1 with
            | 1 => bif e.1.isEmpty then (evOp P S Γ [] o d.2.1 d.2.2).map fun r => (put Γ t [] r.1, (e.2 = .bool want) :: r.2) else none
            | 2 => bif e.1.isEmpty then some (put Γ t [] undef, [e.2 ≠ .bool want]) else none
            | _ => bif ((tj, want) :: e.1).any (fun p => Nat.beq p.1 t) then none else
                (evOp P S Γ ((tj, want) :: e.1) o d.2.1 d.2.2).map fun r => (put Γ t ((tj, want) :: e.1) r.1, r.2.map (chainP Γ ((tj, want) :: e.1)))
    else none

def evOps (P : Program) (S : World → Prop) (n : Nat) (ops : Array Oper) : List Oper → List Dir → Env → Option (Env × List Prop)
  | [], _, Γ => some (Γ, [])
  | o :: l, ds, Γ =>
    match step1 P S n ops Γ o (ds.headD (0, false, none)) with
    | some (Γ1, n1) => match evOps P S n ops l ds.tail Γ1 with
      | some (Γ2, n2) => some (Γ2, n1 ++ n2)
      | none => none
    | none => none

section
variable {P : Program} {S : World → Prop} {n : Nat} {D : List Deferred} {Γ : Env} {a : Act} {ops : Array Oper}

theorem get_of_getD {tm : Array Value} {t : Nat} {b : Bool} (h : tm.getD t undef = .bool b) : tm[t]? = some (.bool b) := by
  rw [Array.getD_eq_getD_getElem?] at h
  cases hh : tm[t]? with
  | none => rw [hh] at h; simp [undef] at h
  | some x => rw [hh] at h; simp at h; rw [h]

theorem wanted_iff {o : Oper} {j : Nat} {want : Bool} {tj : Nat} {tm : Array Value} (hg : o.guard = some (j, want)) (hj : (ops[j]?).bind (·.dst) = some tj) :
    Region.wanted o (yielded ops tm) = true ↔ tm.getD tj undef = .bool want := by
  simp only [Region.wanted, hg, yielded, hj, Option.bind_some, beq_iff_eq]
  constructor
  · intro h
    split at h
    · rename_i b hb
      simp only [Option.some.injEq] at h
      rw [Array.getD_eq_getD_getElem?, hb, h]; rfl
    · cases h
  · intro h
    rw [get_of_getD h]

theorem chainP_ok (hs : St n D Γ a) {ch : Ch} (hc : Holds a.tmps ch) {q : Prop} (h : chainP Γ ch q) : q := by
  induction ch with
  | nil => exact h
  | cons p ch ih =>
    obtain ⟨t, b⟩ := p
    have hc' : Holds a.tmps ch := fun p hp => hc p (List.mem_cons_of_mem _ hp)
    unfold chainP at h
    split at h
    · rename_i e he
      refine ih hc' (h ?_)
      have hsl := hs.sl _ (find_mem he)
      have ht := hc (t, b) (List.mem_cons_self ..)
      by_cases hh : Holds a.tmps e.1
      · rw [← hsl.1 hh]; exact ht
      · rw [hsl.2 hh] at ht; simp [undef] at ht
    · exact ih hc' h

theorem step1_ok {o : Oper} {d : Dir} {Γ' : Env} {nd : List Prop} (hs : St n D Γ a) (hsel : ∀ cs b, o.op ≠ .select cs b) (h : step1 P S n ops Γ o d = some (Γ', nd)) (hn : ∀ p ∈ nd, p) :
    ∃ u, YieldsIf P ops S o u a ∧ St n D Γ' (a.put o.dst u) := by
  unfold step1 at h
  split at h
  · cases h
  · rename_i t ht
    cases hlt : Nat.blt t n with
    | false => simp [hlt] at h
    | true =>
    have hlt' : t < n := Nat.lt_of_succ_le (Nat.le_of_ble_eq_true hlt)
    rw [ht]
    simp only [hlt, cond_true] at h
    split at h
    · rename_i hg
      simp only [Option.map_eq_some_iff, Prod.mk.injEq] at h
      obtain ⟨⟨v, nd'⟩, he, rfl, rfl⟩ := h
      refine ⟨v, .inl ⟨by simp [Region.wanted, hg], evOp_ok hs (holds_nil _) he hn hsel⟩, put_ok hs hlt' rfl (fun _ => rfl) (fun hh => absurd (holds_nil _) hh)⟩
    · rename_i j want hg
      split at h
      · cases h
      · rename_i tj hj
        split at h
        · cases h
        · rename_i e hf
          have hsl := hs.sl _ (find_mem hf)
          split at h
          · cases hem : e.1.isEmpty with
            | false => simp [hem] at h
            | true =>
              have hem' : e.1 = [] := List.isEmpty_iff.1 hem
              simp only [hem, cond_true, Option.map_eq_some_iff, Prod.mk.injEq] at h
              obtain ⟨⟨v, nd'⟩, he, rfl, rfl⟩ := h
              have hw : e.2 = .bool want := hn _ (List.mem_cons_self ..)
              have hslot := hsl.1 (by rw [hem']; exact holds_nil _)
              refine ⟨v, .inl ⟨(wanted_iff hg hj).2 (hslot.trans hw), evOp_ok hs (holds_nil _) he (fun p hp => hn p (List.mem_cons_of_mem _ hp)) hsel⟩, put_ok hs hlt' rfl (fun _ => rfl) (fun hh => absurd (holds_nil _) hh)⟩
          · cases hem : e.1.isEmpty with
            | false => simp [hem] at h
            | true =>
              have hem' : e.1 = [] := List.isEmpty_iff.1 hem
              simp only [hem, cond_true, Option.some.injEq, Prod.mk.injEq] at h
              obtain ⟨rfl, rfl⟩ := h
              have hw : e.2 ≠ .bool want := hn _ (List.mem_cons_self ..)
              have hslot := hsl.1 (by rw [hem']; exact holds_nil _)
              refine ⟨undef, .inr ⟨?_, rfl⟩, put_ok hs hlt' rfl (fun _ => rfl) (fun hh => absurd (holds_nil _) hh)⟩
              cases hb : Region.wanted o (yielded ops a.tmps) with
              | false => rfl
              | true => exact absurd (hslot.symm.trans ((wanted_iff hg hj).1 hb)) hw
          · cases hany : ((tj, want) :: e.1).any (fun p => Nat.beq p.1 t) with
            | true => simp only [hany, cond_true] at h; cases h
            | false =>
              simp only [hany, cond_false, Option.map_eq_some_iff, Prod.mk.injEq] at h
              obtain ⟨⟨v, nd'⟩, he, rfl, rfl⟩ := h
              by_cases hh : Holds a.tmps ((tj, want) :: e.1)
              · refine ⟨v, .inl ⟨(wanted_iff hg hj).2 (hh (tj, want) (List.mem_cons_self ..)), evOp_ok hs hh he (fun p hp => ?_) hsel⟩, put_ok hs hlt' hany (fun _ => rfl) (fun h' => absurd hh h')⟩
                exact chainP_ok hs hh (hn _ (List.mem_map.2 ⟨p, hp, rfl⟩))
              · refine ⟨undef, .inr ⟨?_, rfl⟩, put_ok hs hlt' hany (fun h' => absurd h' hh) (fun _ => rfl)⟩
                cases hb : Region.wanted o (yielded ops a.tmps) with
                | false => rfl
                | true =>
                  have hslot := (wanted_iff hg hj).1 hb
                  exfalso
                  by_cases h' : Holds a.tmps e.1
                  · exact hh (h'.cons hslot)
                  · rw [hsl.2 h'] at hslot; simp [undef] at hslot

variable {Q : Exit → Act → World → Prop} {w : World}

theorem wpl_pure {l2 : List Oper} : ∀ (l : List Oper) (ds : List Dir) (Γ : Env) (a : Act) {Γ' : Env} {nd : List Prop}, (∀ o ∈ l, ∀ cs b, o.op ≠ .select cs b) → St n D Γ a →
    evOps P S n ops l ds Γ = some (Γ', nd) → (∀ p ∈ nd, p) → S w → (∀ a', St n D Γ' a' → wpList P ops Q l2 a' w) → wpList P ops Q (l ++ l2) a w
  | [], _, Γ, a, Γ', nd, _, hs, he, _, _, h => by
    simp only [evOps, Option.some.injEq, Prod.mk.injEq] at he
    exact h a (he.1 ▸ hs)
  | o :: l, ds, Γ, a, Γ', nd, hsel, hs, he, hn, hS, h => by
    unfold evOps at he
    split at he
    · rename_i Γ1 n1 h1
      split at he
      · rename_i Γ2 n2 h2
        simp only [Option.some.injEq, Prod.mk.injEq] at he
        obtain ⟨rfl, rfl⟩ := he
        obtain ⟨u, hy, hs'⟩ := step1_ok (P := P) (S := S) hs (hsel o (List.mem_cons_self ..)) h1 (fun p hp => hn p (List.mem_append_left _ hp))
        have ih := wpl_pure l ds.tail Γ1 (a.put o.dst u) (fun o ho => hsel o (List.mem_cons_of_mem _ ho)) hs' h2 (fun p hp => hn p (List.mem_append_right _ hp)) hS h
        show wpList P ops Q (o :: (l ++ l2)) a w
        unfold wpList
        rcases hy with ⟨hw, hv⟩ | ⟨hw, rfl⟩
        · rw [if_pos hw]
          refine .inl ?_
          unfold Oper.wp
          rw [hv w hS]
          exact ih
        · rw [hw]; exact ih
      · cases he
    · cases he

/-- The fence that asks nothing, in a round or not. -/
def fen (ro : Option Nat) : Fence := { Fence.wide with round := ro }

theorem semAt_run {ro : Option Nat} {ev : Operand → Value} {o : Oper} {x : Next} {w' : World} (h : (execOp ev o).run P w = .ok x w') (hx : ∀ d, x ≠ .defer d) : (o.semAt ro ev).run P w = .ok x w' := by
  rw [Oper.semAt_eq]
  · exact h
  · intro c hc
    obtain ⟨dst, op, oty, pos, after, guard⟩ := o
    simp only at hc
    subst hc
    simp only [execOp, Sem.run_bind] at h
    cases hr : (resolve ev c oty).run P w with
    | ok d w1 =>
      simp only [hr, Result.andThen_ok, Sem.run_pure, Result.ok.injEq] at h
      exact hx d h.1.symm
    | halt z w1 => simp [hr] at h

theorem wplIn_pure {ro : Option Nat} {l2 : List Oper} : ∀ (l : List Oper) (ds : List Dir) (Γ : Env) (a : Act) {Γ' : Env} {nd : List Prop}, (∀ o ∈ l, ∀ cs b, o.op ≠ .select cs b) → St n D Γ a →
    evOps P S n ops l ds Γ = some (Γ', nd) → (∀ p ∈ nd, p) → S w → (∀ a', St n D Γ' a' → wpListIn (fen ro) 0 P ops Q l2 a' w) → wpListIn (fen ro) 0 P ops Q (l ++ l2) a w
  | [], _, Γ, a, Γ', nd, _, hs, he, _, _, h => by
    simp only [evOps, Option.some.injEq, Prod.mk.injEq] at he
    exact h a (he.1 ▸ hs)
  | o :: l, ds, Γ, a, Γ', nd, hsel, hs, he, hn, hS, h => by
    unfold evOps at he
    split at he
    · rename_i Γ1 n1 h1
      split at he
      · rename_i Γ2 n2 h2
        simp only [Option.some.injEq, Prod.mk.injEq] at he
        obtain ⟨rfl, rfl⟩ := he
        obtain ⟨u, hy, hs'⟩ := step1_ok (P := P) (S := S) hs (hsel o (List.mem_cons_self ..)) h1 (fun p hp => hn p (List.mem_append_left _ hp))
        have ih := wplIn_pure l ds.tail Γ1 (a.put o.dst u) (fun o ho => hsel o (List.mem_cons_of_mem _ ho)) hs' h2 (fun p hp => hn p (List.mem_append_right _ hp)) hS h
        show wpListIn (fen ro) 0 P ops Q (o :: (l ++ l2)) a w
        unfold wpListIn
        rcases hy with ⟨hw, hv⟩ | ⟨hw, rfl⟩
        · rw [if_pos hw]
          refine ⟨fun _ _ => trivial, ?_⟩
          rw [semAt_run (hv w hS) (fun d hd => by cases hd)]
          exact ih
        · rw [hw]; exact ⟨fun _ _ => trivial, ih⟩
      · cases he
    · cases he

def takes (md : Region.Mode) (ops : Array Oper) : Array Bool → List Nat → Option (Array Bool)
  | l, [] => some l
  | l, i :: is => bif Region.free md ops l i && (Region.ready md ops l).contains i then takes md ops (l.setIfInBounds i true) is else none

def opsAt (ops : Array Oper) : List Nat → Option (List Oper)
  | [] => some []
  | i :: is => match ops[i]?, opsAt ops is with
    | some o, some l => some (o :: l)
    | _, _ => none

def PanicOk (Q : Exit → Act → World → Prop) : Prop := ∀ c a w d v, Q (.panic c) (a.put d v) w → Q (.panic c) a w

theorem any_pure (hsel : Region.noSelect ops = true) (hQ : PanicOk Q) {fuel : Nat} {l' : Array Bool} : ∀ (is : List Nat) (os : List Oper) (ds : List Dir) (l : Array Bool) (Γ : Env) (a : Act) {Γ' : Env} {nd : List Prop},
    takes .any ops l is = some l' → opsAt ops is = some os → St n D Γ a → evOps P S n ops os ds Γ = some (Γ', nd) → (∀ p ∈ nd, p) → S w →
    (∀ a', St n D Γ' a' → wpAnyH P .any ops Q S fuel l' a' w) → wpAnyH P .any ops Q S (fuel + is.length) l a w
  | [], os, ds, l, Γ, a, Γ', nd, ht, ho, hs, he, _, _, h => by
    simp only [takes, Option.some.injEq] at ht
    simp only [opsAt, Option.some.injEq] at ho
    subst ht; subst ho
    simp only [evOps, Option.some.injEq, Prod.mk.injEq] at he
    exact h a (he.1 ▸ hs)
  | i :: is, os, ds, l, Γ, a, Γ', nd, ht, ho, hs, he, hn, hS, h => by
    unfold takes at ht
    unfold opsAt at ho
    split at ho
    · rename_i o os' hi hos
      simp only [Option.some.injEq] at ho
      subst ho
      cases hb : (Region.free .any ops l i && (Region.ready .any ops l).contains i) with
      | false => simp only [hb, cond_false] at ht; cases ht
      | true =>
        simp only [hb, cond_true] at ht
        simp only [Bool.and_eq_true] at hb
        unfold evOps at he
        split at he
        · rename_i Γ1 n1 h1
          split at he
          · rename_i Γ2 n2 h2
            simp only [Option.some.injEq, Prod.mk.injEq] at he
            obtain ⟨rfl, rfl⟩ := he
            obtain ⟨u, hy, hs'⟩ := step1_ok (P := P) (S := S) hs (Region.noSelect_spec hsel i o · · hi) h1 (fun p hp => hn p (List.mem_append_left _ hp))
            have ih := any_pure hsel hQ is os' ds.tail _ Γ1 (a.put o.dst u) ht hos hs' h2 (fun p hp => hn p (List.mem_append_right _ hp)) hS h
            exact wpAnyH_take hi hsel hb.1 hb.2 (fun c a w hq => hQ c a w _ _ hq) hy hS ih
          · cases he
        · cases he
    · cases ho

end
end K
end Go.Proofs.YtoopekjbikcebaaDoor
