import Derived.Test.YtpaekplhcjleaaaGreatDoorI16
namespace Go.Proofs.YtpaekplhcjleaaaGreatDoor
namespace I
open K (one aggB run_underlying' run_sizeOf' add_none run_v cell_cells)
set_option linter.unusedVariables false

/-- May an operation be taken first (it changes no memory that lies)? -/
def quietK (o : Oper) : Bool :=
  match o.op with
  | .store .. | .mapUpdate .. | .insert .. | .entryStore .. | .mapEntry .. | .range .. | .next .. | .entry .. | .go .. | .defer .. | .panic .. | .send .. | .recv .. | .select .. | .makeChan .. | .ready .. | .waits .. => false
  | .call ⟨.builtin .len, _, _⟩ | .call ⟨.builtin .cap, _, _⟩ | .call ⟨.builtin .max, _, _⟩ | .call ⟨.builtin .min, _, _⟩ | .call ⟨.builtin .unsafeSliceData, _, _⟩ => true
  | .call _ => false
  | _ => true

/-- A state inside a region: slots, memory, next name; blocks that are made and not yet laid; what was read. -/
structure D where
  tm : AV
  h : AV
  nx : Nat
  pt : AV
  wt : AV

abbrev KF := Nat → List AV → AV → Nat → Option (AV × AV × Nat)

structure DC where
  P : Program
  G : Nat
  n : Nat
  d : Nat
  K : KF
  ops : Array Oper
  nx0 : Nat
  pd : Nat

/-- All that an operation waits for, however far. -/
def ancN (ops : Array Oper) : Nat → Nat → List Nat
  | 0, _ => []
  | k + 1, j => match ops[j]? with
    | none => []
    | some o => o.after.toList.flatMap fun e => bif Region.binds .any e then e.on :: ancN ops k e.on else []

/-- Lay the blocks of a list that are made. -/
def merge (pd nx0 : Nat) : List Nat → AV → AV → AV × AV
  | [], h, pt => (h, pt)
  | j :: l, h, pt => bif live (cget pd pt j) && Nat.blt j (2 ^ pd) then merge pd nx0 l (cput HD h (nx0 + j) (cget pd pt j)) (cput pd pt j .undef) else merge pd nx0 l h pt

/-- Is all that was read as it was? -/
def chkW (C : DC) (h wt : AV) : List Nat → Bool
  | [] => true
  | k :: l => (match cget C.pd wt k with
    | .lcons vs v => match C.ops[k]? with
      | some o => match aread C.P (opndS C.G (o.looksAt C.ops) (toList vs)) h o with
        | some v' => beqA v v'
        | none => false
      | none => false
    | _ => true) && chkW C h wt l

def put1 (C : DC) (s : D) (o : Oper) (v : AV) : D := { s with tm := putA C.n C.d s.tm o.dst v }

/-- What a quiet operation comes to: its value; what was read; a block that it makes. -/
structure QE where
  v : AV
  w : Option AV
  p : Option AV

def optput (d i : Nat) (t : AV) : Option AV → AV
  | none => t
  | some x => cput d t i x

def QE.app (C : DC) (q : QE) (s : D) (i : Nat) (o : Oper) : D :=
  { s with tm := putA C.n C.d s.tm o.dst q.v, wt := optput C.pd i s.wt q.w, pt := optput C.pd i s.pt q.p }

def qeff (C : DC) (vs : List AV) (h : AV) (i : Nat) (o : Oper) : Option QE :=
  let ρ := opndS C.G (o.looksAt C.ops) vs
  match apure C.P ρ o with
  | some v => some ⟨v, none, none⟩
  | none => match anew C.P ρ o with
    | some (nv, x) => some ⟨nv.at (C.nx0 + i), none, some x⟩
    | none => match aread C.P ρ h o with
      | some v => some ⟨v, some (.lcons (ofList vs) v), none⟩
      | none => none

/-- A quiet operation, carried out. -/
def quiet1 (C : DC) (s : D) (i : Nat) (o : Oper) : Option D :=
  match qeff C (snap C.n C.d s.tm (o.looksAt C.ops)) s.h i o with
  | some q => some (q.app C s i o)
  | none => none

/-- The operations of a region that a given one does not wait for. -/
def others (C : DC) (i : Nat) : List Nat := let a := ancN C.ops C.ops.size i; (List.range C.ops.size).filter fun k => !(a.any (Nat.beq k))

theorem mem_others {C : DC} {i k : Nat} : k ∈ others C i ↔ k < C.ops.size ∧ k ∉ ancN C.ops C.ops.size i := by
  unfold others
  simp only [List.mem_filter, List.mem_range, Bool.not_eq_true', List.any_eq_false]
  constructor
  · rintro ⟨h1, h2⟩
    exact ⟨h1, fun hm => h2 k hm (Nat.beq_refl k)⟩
  · rintro ⟨h1, h2⟩
    refine ⟨h1, fun x hx hb => h2 ?_⟩
    have : k = x := Nat.eq_of_beq_eq_true hb
    rw [this]; exact hx

/-- An operation that changes memory, carried out. -/
def eff1 (C : DC) (s : D) (i : Nat) (o : Oper) : Option D :=
  let ρ := opndS C.G (o.looksAt C.ops) (snap C.n C.d s.tm (o.looksAt C.ops))
  let m := merge C.pd C.nx0 (ancN C.ops C.ops.size i) s.h s.pt
  let r := match aeff C.P ρ m.1 s.nx o with
    | some r => some r
    | none => match acallee ρ o with
      | some (f, args) => C.K f args m.1 s.nx
      | none => none
  match r with
  | some (v, h', nx') => bif chkW C h' s.wt (others C i) then some { tm := putA C.n C.d s.tm o.dst v, h := h', nx := nx', pt := m.2, wt := s.wt } else none
  | none => none

def dstep (C : DC) (s : D) (i : Nat) (o : Oper) : Option D :=
  match wantA C.n C.d C.ops s.tm o with
  | none => none
  | some false => some (put1 C s o .undef)
  | some true => bif quietK o then quiet1 C s i o else eff1 C s i o

section
variable {C : DC}

theorem merge_put {pd nx0 i : Nat} {x : AV} (hi : i < 2 ^ pd) : ∀ {l : List Nat} {h pt : AV}, i ∉ l → merge pd nx0 l h (cput pd pt i x) = ((merge pd nx0 l h pt).1, cput pd (merge pd nx0 l h pt).2 i x)
  | [], h, pt, _ => rfl
  | j :: l, h, pt, hn => by
    have hji : j ≠ i := fun e => hn (by rw [e]; exact List.mem_cons_self ..)
    have hnl : i ∉ l := fun hm => hn (List.mem_cons_of_mem _ hm)
    simp only [merge]
    cases hb : Nat.blt j (2 ^ pd) with
    | false => simp only [Bool.and_false, cond_false]; exact merge_put hi hnl
    | true =>
      have hj := blt_iff.1 hb
      rw [cget_cput pd pt i j x hi hj, if_neg hji]
      cases hl : live (cget pd pt j) with
      | false => simp only [Bool.false_and, cond_false]; exact merge_put hi hnl
      | true =>
        simp only [Bool.and_self, cond_true]
        rw [cput_comm pd pt i j x .undef hi hj (fun e => hji e.symm)]
        exact merge_put hi hnl

theorem chkW_put {h wt e : AV} {i : Nat} (hi : i < 2 ^ C.pd) (h0 : cget C.pd wt i = .undef) : ∀ {l : List Nat}, (∀ k ∈ l, k < 2 ^ C.pd) → chkW C h (cput C.pd wt i e) l = true → chkW C h wt l = true
  | [], _, _ => rfl
  | k :: l, hl, hc => by
    simp only [chkW, Bool.and_eq_true] at hc ⊢
    refine ⟨?_, chkW_put hi h0 (fun k hk => hl k (List.mem_cons_of_mem _ hk)) hc.2⟩
    have hk := hl k (List.mem_cons_self ..)
    by_cases hki : k = i
    · rw [hki, h0]
    · have := hc.1
      rw [cget_cput C.pd wt i k e hi hk, if_neg hki] at this
      exact this

theorem chkW_get {h wt : AV} {i : Nat} {vs v : AV} : ∀ {l : List Nat}, i ∈ l → cget C.pd wt i = .lcons vs v → chkW C h wt l = true → ∃ o, C.ops[i]? = some o ∧ aread C.P (opndS C.G (o.looksAt C.ops) (toList vs)) h o = some v
  | [], hm, _, _ => by cases hm
  | k :: l, hm, he, hc => by
    simp only [chkW, Bool.and_eq_true] at hc
    rcases List.mem_cons.1 hm with rfl | hm
    · have := hc.1
      rw [he] at this
      simp only at this
      split at this
      · rename_i o ho
        refine ⟨o, ho, ?_⟩
        split at this
        · rename_i v' hv'
          rw [hv', beqA_ok _ _ this]
        · cases this
      · cases this
    · exact chkW_get hm he hc.2

theorem toList_snap (l : List AV) : toList (ofList l) = l := toList_ofList l

/-- Nothing is kept of what has not come up. -/
def Clean (C : DC) (s : D) (i : Nat) : Prop := cget C.pd s.wt i = .undef ∧ cget C.pd s.pt i = .undef

theorem dstep_clean {s s' : D} {i j : Nat} {o : Oper} (hi : i < 2 ^ C.pd) (hj : j < 2 ^ C.pd) (hne : j ≠ i) (hc : Clean C s i) (hs : dstep C s j o = some s') : Clean C s' i := by
  have hmerge : ∀ (l : List Nat) (h pt : AV), cget C.pd pt i = .undef → cget C.pd (merge C.pd C.nx0 l h pt).2 i = .undef := by
    intro l
    induction l with
    | nil => intro h pt hp; exact hp
    | cons k l ih =>
      intro h pt hp
      simp only [merge]
      cases hb : (live (cget C.pd pt k) && Nat.blt k (2 ^ C.pd)) with
      | false => exact ih _ _ hp
      | true =>
        simp only [Bool.and_eq_true] at hb
        refine ih _ _ ?_
        rw [cget_cput C.pd pt k i .undef (blt_iff.1 hb.2) hi]
        split
        · rfl
        · exact hp
  unfold dstep at hs
  split at hs
  · cases hs
  · simp only [Option.some.injEq] at hs; subst hs; exact hc
  · cases hq : quietK o with
    | true =>
      simp only [hq, cond_true, quiet1] at hs
      split at hs
      · rename_i q hqe
        simp only [Option.some.injEq] at hs; subst hs
        refine ⟨?_, ?_⟩
        · show cget C.pd (optput C.pd j s.wt q.w) i = .undef
          cases q.w with
          | none => exact hc.1
          | some e => simp only [optput]; rw [cget_cput C.pd s.wt j i _ hj hi, if_neg (fun e => hne e.symm)]; exact hc.1
        · show cget C.pd (optput C.pd j s.pt q.p) i = .undef
          cases q.p with
          | none => exact hc.2
          | some e => simp only [optput]; rw [cget_cput C.pd s.pt j i _ hj hi, if_neg (fun e => hne e.symm)]; exact hc.2
      · cases hs
    | false =>
      simp only [hq, cond_false, eff1] at hs
      split at hs
      · rename_i v h' nx' hr
        cases hk : chkW C h' s.wt (others C j) with
        | false => simp [hk] at hs
        | true =>
          simp only [hk, cond_true, Option.some.injEq] at hs
          subst hs
          exact ⟨hc.1, hmerge _ _ _ hc.2⟩
      · cases hs

theorem optput_comm {d i j : Nat} {t : AV} {x y : Option AV} (hi : i < 2 ^ d) (hj : j < 2 ^ d) (hne : i ≠ j) : optput d j (optput d i t x) y = optput d i (optput d j t y) x := by
  cases x <;> cases y <;> simp only [optput]
  exact cput_comm d t i j _ _ hi hj hne

theorem app_comm {q r : QE} {s : D} {i j : Nat} {oi oj : Oper} (hn : C.n ≤ 2 ^ C.d) (hi : i < 2 ^ C.pd) (hj : j < 2 ^ C.pd) (hne : i ≠ j) (hd : ∀ d, oi.dst = some d → oj.dst ≠ some d) : r.app C (q.app C s i oi) j oj = q.app C (r.app C s j oj) i oi := by
  simp only [QE.app]
  rw [putA_comm hn hd, optput_comm hi hj hne, optput_comm hi hj hne]

theorem qeff_h {vs : List AV} {h h' : AV} {i : Nat} {o : Oper} {q : QE} (hq : qeff C vs h i o = some q) (hr : ∀ v, q.w = some (.lcons (ofList vs) v) → aread C.P (opndS C.G (o.looksAt C.ops) vs) h' o = some v) : qeff C vs h' i o = some q := by
  unfold qeff at hq ⊢
  dsimp only at hq ⊢
  split
  · rename_i v hv
    rw [hv] at hq; exact hq
  · rename_i hv
    rw [hv] at hq
    simp only at hq
    split
    · rename_i nv x hx
      rw [hx] at hq; exact hq
    · rename_i hx
      rw [hx] at hq
      simp only at hq
      split at hq
      · rename_i v hv'
        simp only [Option.some.injEq] at hq
        subst hq
        rw [hr v rfl]
      · cases hq

theorem qeff_w {vs : List AV} {h : AV} {i : Nat} {o : Oper} {q : QE} (hq : qeff C vs h i o = some q) : ∀ e, q.w = some e → ∃ v, e = .lcons (ofList vs) v := by
  unfold qeff at hq
  dsimp only at hq
  split at hq
  · simp only [Option.some.injEq] at hq; subst hq; intro e he; cases he
  · split at hq
    · simp only [Option.some.injEq] at hq; subst hq; intro e he; cases he
    · split at hq
      · rename_i v hv
        simp only [Option.some.injEq] at hq; subst hq; intro e he
        simp only [Option.some.injEq] at he
        exact ⟨v, he.symm⟩
      · cases hq

/-- A quiet operation, wanted or not. -/
theorem dstep_quiet {s s' : D} {i : Nat} {o : Oper} (hq : quietK o = true) (hs : dstep C s i o = some s') :
    ∃ q : QE, s' = q.app C s i o ∧ (∀ v, q.w = some (.lcons (ofList (snap C.n C.d s.tm (o.looksAt C.ops))) v) → aread C.P (opndS C.G (o.looksAt C.ops) (snap C.n C.d s.tm (o.looksAt C.ops))) s.h o = some v) ∧
      ∀ t : D, wantA C.n C.d C.ops t.tm o = wantA C.n C.d C.ops s.tm o → snap C.n C.d t.tm (o.looksAt C.ops) = snap C.n C.d s.tm (o.looksAt C.ops) →
      (∀ v, q.w = some (.lcons (ofList (snap C.n C.d s.tm (o.looksAt C.ops))) v) → aread C.P (opndS C.G (o.looksAt C.ops) (snap C.n C.d s.tm (o.looksAt C.ops))) t.h o = some v) → dstep C t i o = some (q.app C t i o) := by
  unfold dstep at hs
  split at hs
  · cases hs
  · rename_i hw
    simp only [Option.some.injEq] at hs
    refine ⟨⟨.undef, none, none⟩, hs.symm, fun v hv => (by cases hv), fun t h1 _ _ => ?_⟩
    unfold dstep
    rw [h1, hw]
    rfl
  · rename_i hw
    simp only [hq, cond_true, quiet1] at hs
    split at hs
    · rename_i q hqe
      simp only [Option.some.injEq] at hs
      refine ⟨q, hs.symm, fun v hv => ?_, fun t h1 h2 h3 => ?_⟩
      · unfold qeff at hqe
        dsimp only at hqe
        split at hqe
        · simp only [Option.some.injEq] at hqe; rw [← hqe] at hv; cases hv
        · split at hqe
          · simp only [Option.some.injEq] at hqe; rw [← hqe] at hv; cases hv
          · split at hqe
            · rename_i u hu
              simp only [Option.some.injEq] at hqe
              rw [← hqe] at hv
              simp only [Option.some.injEq, AV.lcons.injEq, true_and] at hv
              rw [← hv]; exact hu
            · cases hqe
      · unfold dstep
        rw [h1, hw]
        simp only [hq, cond_true, quiet1]
        rw [h2, qeff_h hqe h3]
    · cases hs

/-- A quiet operation that is taken ahead of one that stands apart from it. -/
theorem diamond {s s1 s2 : D} {i j : Nat} {oi oj : Oper} (hn : C.n ≤ 2 ^ C.d) (hii : C.ops[i]? = some oi) (hjj : C.ops[j]? = some oj) (hpd : C.ops.size ≤ 2 ^ C.pd) (hne : i ≠ j) (hc : Clean C s i) (hq : quietK oi = true) (hap : oi.apart C.ops oj = true) (hanc : i ∉ ancN C.ops C.ops.size j)
    (h1 : dstep C s i oi = some s1) (h2 : dstep C s1 j oj = some s2) : ∃ s', dstep C s j oj = some s' ∧ dstep C s' i oi = some s2 := by
  obtain ⟨a1, a2, a3⟩ := Oper.apart_spec hap
  have hin : i < C.ops.size := (Array.getElem?_eq_some_iff.1 hii).1
  have hjn : j < C.ops.size := (Array.getElem?_eq_some_iff.1 hjj).1
  have hi : i < 2 ^ C.pd := by omega
  have hj : j < 2 ^ C.pd := by omega
  have hrange : ∀ k ∈ others C j, k < 2 ^ C.pd := fun k hk => by have := (mem_others.1 hk).1; omega
  obtain ⟨q, rfl, hread0, hQ⟩ := dstep_quiet hq h1
  have hwant : wantA C.n C.d C.ops (q.app C s i oi).tm oj = wantA C.n C.d C.ops s.tm oj := wantA_put hn a1
  have hsnap : snap C.n C.d (q.app C s i oi).tm (oj.looksAt C.ops) = snap C.n C.d s.tm (oj.looksAt C.ops) := snap_put hn a1
  have hback : ∀ (t : D) (y : AV), t.tm = putA C.n C.d s.tm oj.dst y → (∀ v, q.w = some (.lcons (ofList (snap C.n C.d s.tm (oi.looksAt C.ops))) v) → aread C.P (opndS C.G (oi.looksAt C.ops) (snap C.n C.d s.tm (oi.looksAt C.ops))) t.h oi = some v) → dstep C t i oi = some (q.app C t i oi) := by
    intro t y ht hr
    refine hQ t ?_ ?_ hr
    · rw [ht]; exact wantA_put hn a3
    · rw [ht]; exact snap_put hn a3
  cases hqj : quietK oj with
  | true =>
    obtain ⟨r, rfl, hrj, hR⟩ := dstep_quiet hqj h2
    rw [hsnap] at hR hrj
    have hs' : dstep C s j oj = some (r.app C s j oj) := hR s hwant.symm rfl hrj
    refine ⟨_, hs', ?_⟩
    rw [hback (r.app C s j oj) r.v rfl hread0, app_comm hn hi hj hne a2]
  | false =>
    unfold dstep at h2 ⊢
    rw [hwant] at h2
    split at h2
    · cases h2
    · rename_i hw
      simp only [Option.some.injEq] at h2
      refine ⟨put1 C s oj .undef, rfl, ?_⟩
      have := hback (put1 C s oj .undef) .undef rfl hread0
      unfold dstep at this
      rw [this, ← h2]
      simp only [QE.app, put1]
      rw [putA_comm hn (fun d hd he => a2 d he hd)]
    · rename_i hw
      simp only [hqj, cond_false, eff1] at h2
      rw [hsnap] at h2
      have hm : merge C.pd C.nx0 (ancN C.ops C.ops.size j) (q.app C s i oi).h (q.app C s i oi).pt = ((merge C.pd C.nx0 (ancN C.ops C.ops.size j) s.h s.pt).1, optput C.pd i (merge C.pd C.nx0 (ancN C.ops C.ops.size j) s.h s.pt).2 q.p) := by
        simp only [QE.app]
        cases q.p with
        | none => rfl
        | some x => simp only [optput]; exact merge_put hi hanc
      rw [hm] at h2
      split at h2
      · rename_i v h' nx' hr
        cases hk : chkW C h' (q.app C s i oi).wt (others C j) with
        | false => simp [hk] at h2
        | true =>
          simp only [hk, cond_true, Option.some.injEq] at h2
          have hk' : chkW C h' s.wt (others C j) = true := by
            cases hqw : q.w with
            | none => simp only [QE.app, hqw, optput] at hk; exact hk
            | some e => simp only [QE.app, hqw, optput] at hk; exact chkW_put hi hc.1 hrange hk
          refine ⟨{ tm := putA C.n C.d s.tm oj.dst v, h := h', nx := nx', pt := (merge C.pd C.nx0 (ancN C.ops C.ops.size j) s.h s.pt).2, wt := s.wt }, ?_, ?_⟩
          · simp only [hqj, cond_false, eff1]
            have hr' := hr
            simp only [QE.app] at hr'
            rw [hr']
            simp only [hk', cond_true]
          · have := hback { tm := putA C.n C.d s.tm oj.dst v, h := h', nx := nx', pt := (merge C.pd C.nx0 (ancN C.ops C.ops.size j) s.h s.pt).2, wt := s.wt } v rfl (fun u hu => by
              have hg : cget C.pd (q.app C s i oi).wt i = .lcons (ofList (snap C.n C.d s.tm (oi.looksAt C.ops))) u := by
                simp only [QE.app, hu, optput]
                rw [cget_cput C.pd _ i i _ hi hi, if_pos rfl]
              obtain ⟨o', ho', hrd⟩ := chkW_get (mem_others.2 ⟨hin, hanc⟩) hg hk
              rw [hii] at ho'
              simp only [Option.some.injEq] at ho'
              subst ho'
              rw [toList_ofList] at hrd
              exact hrd)
            unfold dstep at this
            rw [this, ← h2]
            simp only [QE.app]
            rw [putA_comm hn (fun d hd he => a2 d he hd)]
      · cases h2

end
end I
end Go.Proofs.YtpaekplhcjleaaaGreatDoor
