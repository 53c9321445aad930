import Derived.Test.YtpaekplhcjleaaaGreatDoorI14
import Derived.RangeFuncLeaves
import Derived.OrdersIn
import Derived.Sort.LoopGhostIn
namespace Go.Proofs.YtpaekplhcjleaaaGreatDoor
namespace I
open K (one aggB run_underlying' run_sizeOf' add_none run_v cell_cells)
set_option linter.unusedVariables false

/-! ### Slots -/
def opndA (G n d : Nat) (tm : AV) : Operand → AV
  | .tmp t => bif Nat.blt t n then cget d tm t else .undef
  | .const v => ofConst v
  | .global g => bif Nat.blt g G then .ptr g 0 else .bad
  | .func f => .fn f .lnil .lnil

def putA (n d : Nat) (tm : AV) : Option Nat → AV → AV
  | none, _ => tm
  | some t, v => bif Nat.blt t n then cput d tm t v else tm

structure SlotRel (ds : List Deferred) (σ : Sg) (n d : Nat) (tm : AV) (a : Act) : Prop where
  size : a.tmps.size = n
  dfr : a.defers = ds
  le : n ≤ 2 ^ d
  sl : ∀ t, t < n → Rel σ (cget d tm t) (a.tmps.getD t Go.undef)

def GRel (σ : Sg) (G : Nat) : Prop := ∀ g, g < G → ∃ size, σ g = some (g, 0, size)

theorem GRel.mono {σ σ' : Sg} {G : Nat} (h : GRel σ G) (hs : Sub σ σ') : GRel σ' G := fun g hg => by
  obtain ⟨size, h1⟩ := h g hg
  exact ⟨size, hs _ _ h1⟩

section
variable {P : Program} {ds : List Deferred} {σ σ' : Sg} {G n d : Nat} {tm : AV} {a : Act}

theorem SlotRel.mono (h : SlotRel ds σ n d tm a) (hs : Sub σ σ') : SlotRel ds σ' n d tm a := ⟨h.size, h.dfr, h.le, fun t ht => (h.sl t ht).mono hs⟩

theorem opnd_ok (hs : SlotRel ds σ n d tm a) (hg : GRel σ G) (x : Operand) : Rel σ (opndA G n d tm x) (a.eval x) := by
  cases x with
  | tmp t =>
    simp only [opndA, Act.eval]
    cases hb : Nat.blt t n with
    | true => simp only [cond_true]; exact hs.sl t (blt_iff.1 hb)
    | false =>
      have := blt_false.1 hb
      simp only [cond_false]
      rw [Array.getD_eq_getD_getElem?, Array.getElem?_eq_none (by rw [hs.size]; exact this)]
      exact .undef
  | const v => exact ofConst_ok σ v
  | global g =>
    simp only [opndA, Act.eval]
    cases hb : Nat.blt g G with
    | true =>
      obtain ⟨size, h1⟩ := hg g (blt_iff.1 hb)
      simp only [cond_true]
      exact .ptr _ _ g 0 size 0 h1 rfl
    | false => simp only [cond_false]; exact .bad _
  | func f => exact .fn f .lnil .lnil #[] #[] rfl rfl (fun i a v h => by simp [toList] at h) (fun i a v h => by simp [toList] at h)

theorem put_ok (hs : SlotRel ds σ n d tm a) {dst : Option Nat} {v : AV} {v' : Value} (hv : Rel σ v v') : SlotRel ds σ n d (putA n d tm dst v) (a.put dst v') := by
  cases dst with
  | none => exact hs
  | some t =>
    simp only [putA]
    cases hb : Nat.blt t n with
    | false =>
      have hlt := blt_false.1 hb
      simp only [cond_false]
      refine ⟨by simp [Act.put, hs.size], hs.dfr, hs.le, fun u hu => ?_⟩
      simp only [Act.put]
      rw [K.getD_set, if_neg (by rw [hs.size]; omega)]
      exact hs.sl u hu
    | true =>
      have hlt := blt_iff.1 hb
      simp only [cond_true]
      refine ⟨by simp [Act.put, hs.size], hs.dfr, hs.le, fun u hu => ?_⟩
      have hle := hs.le
      simp only [Act.put]
      rw [cget_cput d tm t u v (by omega) (by omega), K.getD_set]
      by_cases hut : u = t
      · rw [if_pos hut, if_pos ⟨hut, by rw [hs.size]; exact hlt⟩]; exact hv
      · rw [if_neg hut, if_neg (fun h => hut h.1)]; exact hs.sl u hu

theorem undef_rel (σ : Sg) : Rel σ .undef Go.undef := .undef

theorem rel_bool {x : AV} {b : Bool} (h : Rel σ x (.bool b)) (hb : x ≠ .bad) : x = .bool b := by
  cases h with
  | bad => exact absurd rfl hb
  | bool => rfl

/-- Is an operation of a region carried out? -/
def wantA (n d : Nat) (ops : Array Oper) (tm : AV) (o : Oper) : Option Bool :=
  match o.guard with
  | none => some true
  | some (j, want) => match (ops[j]?).bind (·.dst) with
    | none => none
    | some t => bif Nat.blt t n then
        match cget d tm t with
        | .bool b => some (b == want)
        | .bad => none
        | _ => some false
      else none

theorem wantA_ok (hs : SlotRel ds σ n d tm a) {ops : Array Oper} {o : Oper} {b : Bool} (h : wantA n d ops tm o = some b) : Region.wanted o (yielded ops a.tmps) = b := by
  unfold wantA at h
  split at h
  · rename_i hg
    simp only [Option.some.injEq] at h
    subst h
    simp [Region.wanted, hg]
  · rename_i j want hg
    split at h
    · cases h
    · rename_i t ht
      cases hb : Nat.blt t n with
      | false => simp [hb] at h
      | true =>
        simp only [hb, cond_true] at h
        have hr := hs.sl t (blt_iff.1 hb)
        have hw := K.wanted_iff (tm := a.tmps) hg ht
        split at h
        · rename_i c hc
          simp only [Option.some.injEq] at h
          rw [hc] at hr
          generalize hv : a.tmps.getD t Go.undef = v at hr hw
          cases hr
          rw [Bool.eq_iff_iff, hw, ← h]
          simp
        · cases h
        · rename_i hnb hne
          simp only [Option.some.injEq] at h
          rw [← h, Bool.eq_false_iff]
          intro hh
          have := hw.1 hh
          rw [this] at hr
          exact hnb _ (rel_bool hr (fun e => hne (by rw [e])))

end

/-! ### One operation -/
inductive SR where
  | val (v h : AV) (nx : Nat)
  | call (f : Nat) (args : List AV)

def acallee (ρ : Operand → AV) (o : Oper) : Option (Nat × List AV) :=
  match o.op with
  | .call ⟨.value f, args, _⟩ => match ρ f with
    | .fn g first caps => some (2 * g, toList first ++ (args.toList.map ρ ++ toList caps))
    | .yld b => some (2 * b + 1, args.toList.map ρ)
    | _ => none
  | _ => none

def astep (P : Program) (ρ : Operand → AV) (h : AV) (nx : Nat) (o : Oper) : Option SR :=
  match apure P ρ o with
  | some v => some (.val v h nx)
  | none => match aread P ρ h o with
    | some v => some (.val v h nx)
    | none => match anew P ρ o with
      | some (nv, x) => bif Nat.blt nx (2 ^ HD) then some (.val (nv.at nx) (cput HD h nx x) (nx + 1)) else none
      | none => match aeff P ρ h nx o with
        | some (v, h', nx') => some (.val v h' nx')
        | none => match acallee ρ o with
          | some (f, args) => some (.call f args)
          | none => none

/-- Values that a list of abstract values stands for. -/
def RelL (σ : Sg) (l : List AV) (vs : List Value) : Prop := l.length = vs.length ∧ ∀ (i : Nat) a v, l[i]? = some a → vs[i]? = some v → Rel σ a v

section
variable {P : Program} {σ : Sg} {h : AV} {nx : Nat} {w0 w : World} {B : Fr}

theorem RelL.mono {σ' : Sg} {l : List AV} {vs : List Value} (hr : RelL σ l vs) (hs : Sub σ σ') : RelL σ' l vs := ⟨hr.1, fun i a v ha hv => (hr.2 i a v ha hv).mono hs⟩

theorem RelL.app {l l' : List AV} {vs vs' : List Value} (h1 : RelL σ l vs) (h2 : RelL σ l' vs') : RelL σ (l ++ l') (vs ++ vs') := by
  refine ⟨by simp [h1.1, h2.1], fun i a v ha hv => ?_⟩
  by_cases hi : i < l.length
  · rw [List.getElem?_append_left hi] at ha
    rw [List.getElem?_append_left (by rw [← h1.1]; exact hi)] at hv
    exact h1.2 i a v ha hv
  · rw [List.getElem?_append_right (by omega)] at ha
    rw [List.getElem?_append_right (by rw [← h1.1]; omega), ← h1.1] at hv
    exact h2.2 _ a v ha hv

theorem map_relL {ρ : Operand → AV} {ev : Operand → Value} (hρ : ∀ x, Rel σ (ρ x) (ev x)) (xs : List Operand) : RelL σ (xs.map ρ) (xs.map ev) := by
  refine ⟨by simp, fun i a v ha hv => ?_⟩
  simp only [List.getElem?_map, Option.map_eq_some_iff] at ha hv
  obtain ⟨x, h1, rfl⟩ := ha
  obtain ⟨y, h2, rfl⟩ := hv
  rw [h1] at h2; simp only [Option.some.injEq] at h2; subst h2
  exact hρ x

/-- The fence that asks nothing, in a round or not. -/
def fen (ro : Option Nat) : Fence := { Fence.wide with round := ro }

/-- What a callee comes to: 2 f: function f; 2 b + 1: yield of the loop b. -/
def CalleeOk (P : Program) (σ : Sg) (code : Nat) (vs : List Value) (w : World) (R : Ending → World → Prop) : Prop :=
  if code % 2 = 0 then (∃ fn c, P.funcs[code / 2]? = some fn ∧ (fn.name == "runtime.NumGoroutine") = false ∧ fn.body = some c) ∧ Calls P (code / 2) vs.toArray w R
  else ∀ r base size, σ (code / 2) = some (r, base, size) → ∃ f tmps assign body, (Instr.yield r vs.toArray).run P w = .ok (.round r f tmps assign body) w ∧ RoundIn Fence.wide 0 P r f tmps assign body w R

theorem semAt_run {ro : Option Nat} {ev : Operand → Value} {o : Oper} {x : Next} {w' : World} (h : (execOp ev o).run P w = .ok x w') (hx : ∀ d, x ≠ .defer d) : (o.semAt ro ev).run P w = .ok x w' := by
  rw [Oper.semAt_eq]
  · exact h
  · intro c hc
    obtain ⟨dst, op, oty, pos, after, guard⟩ := o
    simp only at hc
    subst hc
    simp only [execOp, Sem.run_bind] at h
    cases hr : (resolve ev c oty).run P w with
    | ok d w1 =>
      simp only [hr, Result.andThen_ok, Sem.run_pure, Result.ok.injEq] at h
      exact hx d h.1.symm
    | halt z w1 => simp [hr] at h

/-- An operation that gives a value. -/
theorem wpIn_value {ro : Option Nat} {a : Act} {o : Oper} {v : Value} {w' : World} {next : Act → World → Prop} {Q : Exit → Act → World → Prop} (h : (execOp a.eval o).run P w = .ok (.value v) w') (hn : next (a.put o.dst v) w') : o.wpIn (fen ro) 0 P a w next Q := by
  refine ⟨fun _ _ => trivial, ?_⟩
  rw [semAt_run h (fun d hd => by cases hd)]
  exact hn

theorem wpIn_skipOp {ro : Option Nat} {a : Act} {o : Oper} {w' : World} {next : Act → World → Prop} {Q : Exit → Act → World → Prop} (h : (execOp a.eval o).run P w = .ok .skip w') (hn : next (a.put o.dst Go.undef) w') : o.wpIn (fen ro) 0 P a w next Q := by
  refine ⟨fun _ _ => trivial, ?_⟩
  rw [semAt_run h (fun d hd => by cases hd)]
  exact hn

/-- An operation that calls. -/
theorem wpIn_callOp {ro : Option Nat} {a : Act} {ρ : Operand → AV} {o : Oper} {code : Nat} {args : List AV} (hρ : ∀ x, Rel σ (ρ x) (a.eval x)) (hc : acallee ρ o = some (code, args)) {R : Ending → World → Prop}
    (hk : ∀ vs, RelL σ args vs → CalleeOk P σ code vs w R) {next : Act → World → Prop} {Q : Exit → Act → World → Prop} (hR : ∀ e w', R e w' → ∃ v', e = .returned v' ∧ next (a.put o.dst v') w') : o.wpIn (fen ro) 0 P a w next Q := by
  obtain ⟨dst, op, oty, pos, after, guard⟩ := o
  refine ⟨fun _ _ => trivial, ?_⟩
  unfold acallee at hc
  dsimp only at hc
  split at hc
  · rename_i g xs tys
    split at hc
    · rename_i f' first caps he
      simp only [Option.some.injEq, Prod.mk.injEq] at hc
      obtain ⟨rfl, rfl⟩ := hc
      have hg := hρ g
      rw [he] at hg
      generalize hgv : a.eval g = gv at hg
      cases hg with
      | fn _ _ _ ys zs h1 h2 h3 h4 =>
      have hrel : RelL σ (toList first ++ (xs.toList.map ρ ++ toList caps)) (ys.toList ++ (xs.toList.map a.eval ++ zs.toList)) :=
        RelL.app ⟨by simpa using h1, fun i a v ha hv => h3 i a v ha (by simpa using hv)⟩ (RelL.app (map_relL hρ _) ⟨by simpa using h2, fun i a v ha hv => h4 i a v ha (by simpa using hv)⟩)
      have hk := hk _ hrel
      unfold CalleeOk at hk
      rw [if_pos (by omega), show 2 * f' / 2 = f' by omega] at hk
      obtain ⟨⟨fn, c, c1, c2, c3⟩, hcall⟩ := hk
      have hrun : (execOp a.eval ⟨dst, .call ⟨.value g, xs, tys⟩, oty, pos, after, guard⟩).run P w = .ok (.enter f' (ys.toList ++ (xs.toList.map a.eval ++ zs.toList)).toArray) w := by
        have e : ys ++ xs.map a.eval ++ zs = (ys.toList ++ (xs.toList.map a.eval ++ zs.toList)).toArray := by
          apply Array.ext'
          simp
        simp only [execOp, resolve, hgv, Deferred.ofValue, Sem.run_bind, Sem.run_pure, Result.andThen_ok, invoke]
        rw [e]
        exact K.run_callFunc c1 c2 c3
      rw [semAt_run hrun (fun d hd => by cases hd), Oper.uponIn_enter]
      refine ⟨fun h => (by cases h), ?_⟩
      have h1 : CallsIn Fence.wide 0 P f' _ w R := callsIn_wide.2 hcall
      have h2 : CallsIn (fen ro) 0 P f' _ w R := h1
      refine h2.mono fun e w' he => ?_
      obtain ⟨v', rfl, hn⟩ := hR e w' he
      exact hn
    · rename_i b he
      simp only [Option.some.injEq, Prod.mk.injEq] at hc
      obtain ⟨rfl, rfl⟩ := hc
      have hg := hρ g
      rw [he] at hg
      generalize hgv : a.eval g = gv at hg
      cases hg with
      | yld _ r base size hs =>
      have hk := hk _ (map_relL hρ xs.toList)
      unfold CalleeOk at hk
      rw [if_neg (by omega), show (2 * b + 1) / 2 = b by omega] at hk
      obtain ⟨f, tmps, assign, body, h1, h2⟩ := hk r base size hs
      have hrun : (execOp a.eval ⟨dst, .call ⟨.value g, xs, tys⟩, oty, pos, after, guard⟩).run P w = .ok (.round r f tmps assign body) w := by
        have e : xs.map a.eval = (xs.toList.map a.eval).toArray := by
          apply Array.ext'
          simp
        simp only [execOp, resolve, hgv, Deferred.ofValue, Sem.run_bind, Sem.run_pure, Result.andThen_ok, invoke]
        simp
        rw [e]
        exact h1
      rw [semAt_run hrun (fun d hd => by cases hd), Oper.uponIn_round]
      refine ⟨fun h => (by cases h), ?_⟩
      have h3 : RoundIn (fen ro) 0 P r f tmps assign body w R := h2
      refine h3.mono fun e w' he => ?_
      obtain ⟨v', rfl, hn⟩ := hR e w' he
      exact hn
    · cases hc
  · cases hc

theorem astep_ok {ρ : Operand → AV} {ev : Operand → Value} {o : Oper} {a h' : AV} {nx' : Nat} (H : HS σ h nx w0 B w) (hfv : ∀ f, ev (.func f) = .func (.func f) #[] #[]) (hρ : ∀ x, Rel σ (ρ x) (ev x)) (ha : astep P ρ h nx o = some (.val a h' nx')) :
    StepOk P σ h nx w0 B w (execOp ev o) a h' nx' := by
  unfold astep at ha
  split at ha
  · rename_i v hv
    simp only [Option.some.injEq, SR.val.injEq] at ha
    obtain ⟨rfl, rfl, rfl⟩ := ha
    obtain ⟨u, h1, h2⟩ := apure_ok (P := P) (w := w) hρ hv
    exact ⟨σ, u, w, SubX.refl nx σ, Dk.refl nx h, Nat.le_refl _, .inl h2, h1, H⟩
  · split at ha
    · rename_i v hv
      simp only [Option.some.injEq, SR.val.injEq] at ha
      obtain ⟨rfl, rfl, rfl⟩ := ha
      obtain ⟨u, h1, h2⟩ := aread_ok (P := P) H hρ hv
      exact ⟨σ, u, w, SubX.refl nx σ, Dk.refl nx h, Nat.le_refl _, .inl h2, h1, H⟩
    · split at ha
      · rename_i nv x hv
        cases hb : Nat.blt nx (2 ^ HD) with
        | false => simp [hb] at ha
        | true =>
          simp only [hb, cond_true, Option.some.injEq, SR.val.injEq] at ha
          obtain ⟨rfl, rfl, rfl⟩ := ha
          obtain ⟨p, u, w', h1, h2, h3⟩ := anew_ok (P := P) H (blt_iff.1 hb) hρ hv
          exact ⟨_, u, w', H.subX p, dkNew (blt_iff.1 hb), Nat.le_succ _, .inl h1, h2, h3⟩
      · split at ha
        · rename_i v h1 nx1 hv
          simp only [Option.some.injEq, SR.val.injEq] at ha
          obtain ⟨rfl, rfl, rfl⟩ := ha
          exact aeff_ok H hfv hρ hv
        · split at ha
          · cases ha
          · cases ha

theorem astep_call {ρ : Operand → AV} {o : Oper} {f : Nat} {args : List AV} (ha : astep P ρ h nx o = some (.call f args)) : acallee ρ o = some (f, args) := by
  unfold astep at ha
  split at ha
  · cases ha
  · split at ha
    · cases ha
    · split at ha
      · rename_i nv x hv
        cases hb : Nat.blt nx (2 ^ HD) <;> simp [hb] at ha
      · split at ha
        · cases ha
        · split at ha
          · rename_i f' args' hc
            simp only [Option.some.injEq, SR.call.injEq] at ha
            obtain ⟨rfl, rfl⟩ := ha
            exact hc
          · cases ha

end
end I
end Go.Proofs.YtpaekplhcjleaaaGreatDoor
