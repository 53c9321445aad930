import Derived.Test.YtpaekplhcjleaaaGreatDoorI21
namespace Go.Proofs.YtpaekplhcjleaaaGreatDoor
namespace I
open K (one aggB run_underlying' run_sizeOf' add_none run_v cell_cells)
set_option linter.unusedVariables false

/-- A tree of nothing, laid out. -/
def fullA : Nat → AV
  | 0 => .undef
  | d + 1 => .node (fullA d) (fullA d)

theorem cget_fullA : ∀ (d i : Nat), cget d (fullA d) i = .undef
  | 0, _ => rfl
  | d + 1, i => by
    simp only [fullA, cget]
    cases Nat.blt i (2 ^ d)
    · exact cget_fullA d _
    · exact cget_fullA d _


/-! ### Calls -/
def argsA (d : Nat) : List AV → Nat → AV → AV
  | [], _, t => t
  | a :: l, i, t => argsA d l (i + 1) (cput d t i a)

def resA (P : Program) (n d : Nat) (tm h : AV) : List ResultVar → Option (List AV)
  | [] => some []
  | .tmp t :: l => match resA P n d tm h l with
    | some vs => some ((bif Nat.blt t n then cget d tm t else .undef) :: vs)
    | none => none
  | .cell t ty :: l => match (bif Nat.blt t n then cget d tm t else .undef) with
    | .ptr b off => match cget HD h b with
      | .cells _ m _ t => match apartA P ty m t off, resA P n d tm h l with
        | some v, some vs => some (v :: vs)
        | _, _ => none
      | _ => none
    | _ => none

def resOfA : List AV → AV
  | [v] => v
  | vs => .tup (ofList vs)

/-- The marks are taken: no call was deferred in a round. -/
def takeA : List Nat → AV → Option AV
  | [], h => some h
  | b :: l, h => match cget HD h b with
    | .df => takeA l (cput HD h b .dead)
    | _ => none

def putPs (n d : Nat) : List Nat → List AV → AV → AV
  | t :: ts, a :: as, tm => putPs n d ts as (putA n d tm (some t) a)
  | _, _, tm => tm

def Ex.goes : Ex → Bool
  | .normal => true
  | _ => false
def Ex.stn : Ex → Nat
  | .normal => 0
  | _ => 2
def Ex.pend : Ex → Nat
  | .normal => 0
  | .ret => 1
  | .exit id => id + 2

/-- One round of loop b. -/
def roundA (P : Program) (G : Nat) (K : KF) (N b : Nat) (args : List AV) (h : AV) (nx : Nat) : Option (AV × AV × Nat) :=
  match cget HD h b with
  | .lp n ps assign body tm st _ _ => bif Nat.beq st 0 && Nat.beq args.length ps.length then
      match execC P G n (lg n) K N (b + 1) assign ([], putPs n (lg n) ps args tm, h, nx) with
      | some (.normal, ([], tm1, h1, nx1)) => match cget HD h1 b with
        | .lp n' ps' as' bo' tm' st' pe' db' => bif Nat.beq st' 0 then
            match execC P G n (lg n) K N (b + 1) body ([], tm1, cput HD h1 b (.lp n' ps' as' bo' tm' 1 pe' db'), nx1) with
            | some (e, (_, _, h2, nx2)) => match cget HD h2 b with
              | .lp n2 ps2 as2 bo2 tm2 _ _ db2 => some (.bool e.goes, cput HD h2 b (.lp n2 ps2 as2 bo2 tm2 e.stn e.pend db2), nx2)
              | _ => none
            | none => none
          else none
        | _ => none
      | _ => none
    else none
  | _ => none

/-- A call: X knows some calls by themselves. -/
def callA (P : Program) (G : Nat) (X : KF) (N : Nat) : Nat → KF
  | 0, _, _, _, _ => none
  | k + 1, f, args, h, nx => bif Nat.beq (f % 2) 1 then roundA P G (callA P G X N k) N (f / 2) args h nx else match X (f / 2) args h nx with
    | some r => some r
    | none => match P.funcs[f / 2]? with
      | none => none
      | some fn => bif fn.name == "runtime.NumGoroutine" || !(Nat.ble args.length fn.ntmps) then none else
        match fn.body with
        | none => none
        | some c => match execC P G fn.ntmps (lg fn.ntmps) (callA P G X N k) N 0 c ([], argsA (lg fn.ntmps) args 0 (fullA (lg fn.ntmps)), h, nx) with
          | some (.exit _, _) => none
          | some (_, (dl, tm, h', nx')) => match takeA dl h' with
            | some h'' => match resA P fn.ntmps (lg fn.ntmps) tm h'' fn.results.toList with
              | some vs => some (resOfA vs, h'', nx')
              | none => none
            | none => none
          | none => none

section
variable {P : Program} {G N : Nat} {X : KF}

theorem argsA_get {d n : Nat} (hn : n ≤ 2 ^ d) : ∀ (l : List AV) (i : Nat) (t : AV) (j : Nat), i + l.length ≤ n → j < n → cget d (argsA d l i t) j = if i ≤ j ∧ j < i + l.length then l.getD (j - i) .undef else cget d t j
  | [], i, t, j, _, _ => by rw [if_neg (by simp)]; rfl
  | a :: l, i, t, j, h, hj => by
    simp only [List.length_cons] at h
    rw [argsA, argsA_get hn l (i + 1) _ j (by omega) hj, cget_cput d t i j a (by omega) (by omega)]
    by_cases hji : j = i
    · subst hji
      rw [if_neg (by omega), if_pos rfl, if_pos (by simp)]
      simp
    · rw [if_neg hji]
      by_cases hin : i + 1 ≤ j ∧ j < i + 1 + l.length
      · rw [if_pos hin, if_pos (by simp; omega), show j - i = (j - (i + 1)) + 1 by omega, List.getD_cons_succ]
      · rw [if_neg hin, if_neg (by simp; omega)]

theorem slots_args {σ : Sg} {n : Nat} {args : List AV} {vs : List Value} (hr : RelL σ args vs) (hle : args.length ≤ n) :
    SlotRel [] σ n (lg n) (argsA (lg n) args 0 (fullA (lg n))) { tmps := vs.toArray ++ Array.replicate (n - vs.toArray.size) Go.undef, defers := [] } := by
  have hl := hr.1
  have hn := lg_le n
  refine ⟨by simp; omega, rfl, hn, fun t ht => ?_⟩
  rw [argsA_get hn args 0 _ t (by omega) ht, Array.getD_eq_getD_getElem?]
  by_cases hlt : t < args.length
  · rw [if_pos (by omega), Nat.sub_zero, Array.getElem?_append_left (by simp; omega)]
    have h1 : args[t]? = some args[t] := List.getElem?_eq_getElem hlt
    have h2 : vs[t]? = some (vs[t]'(by omega)) := List.getElem?_eq_getElem _
    rw [List.getD_eq_getElem?_getD, h1, List.getElem?_toArray, h2]
    exact hr.2 t _ _ h1 h2
  · rw [if_neg (by omega), cget_fullA, Array.getElem?_append_right (by simp; omega)]
    have : (Array.replicate (n - vs.toArray.size) Go.undef)[t - vs.toArray.size]? = some Go.undef := by
      rw [Array.getElem?_replicate, if_pos (by simp only [List.size_toArray]; omega)]
    rw [this]
    exact .undef

theorem resA_ok {n d : Nat} {w0 w : World} {B : Fr} {σ : Sg} {tm h : AV} {nx : Nat} {a : Act} {ds : List Deferred} (S : Sim ds n d G w0 B σ (tm, h, nx) a w) : ∀ (rs : List ResultVar) (vs : List AV), resA P n d tm h rs = some vs →
    ∃ us : List Value, RelL σ vs us ∧ (rs.mapM (K.resF a.tmps)).run P w = .ok us w
  | [], vs, hh => by
    simp only [resA, Option.some.injEq] at hh
    subst hh
    exact ⟨[], ⟨rfl, fun i a v ha => by simp at ha⟩, rfl⟩
  | .tmp t :: rs, vs, hh => by
    unfold resA at hh
    split at hh
    · rename_i vs' hv
      simp only [Option.some.injEq] at hh
      subst hh
      obtain ⟨us, h1, h2⟩ := resA_ok S rs vs' hv
      have h3 := opnd_ok S.sl S.g (.tmp t)
      refine ⟨a.tmps.getD t Go.undef :: us, ⟨by simp [h1.1], fun i x v hx hv => ?_⟩, ?_⟩
      · cases i with
        | zero =>
          simp only [List.getElem?_cons_zero, Option.some.injEq] at hx hv
          subst hx; subst hv; exact h3
        | succ i => simp only [List.getElem?_cons_succ] at hx hv; exact h1.2 i x v hx hv
      · rw [List.mapM_cons]
        simp only [K.resF, Sem.run_bind, Sem.run_pure, Result.andThen_ok, h2]
    · cases hh
  | .cell t ty :: rs, vs, hh => by
    unfold resA at hh
    have h3 := opnd_ok S.sl S.g (.tmp t)
    simp only [opndA] at h3
    split at hh
    · rename_i b off he
      rw [he] at h3
      simp only [Act.eval] at h3
      generalize hev : a.tmps.getD t Go.undef = tv at h3
      cases h3 with
      | ptr _ _ r base size o hs ho =>
      split at hh
      · rename_i ety m ro t' hc
        split at hh
        · rename_i v vs' hv hvs
          simp only [Option.some.injEq] at hh
          subst hh
          obtain ⟨cs, fr, tt, g1, g2, g3, g4, g5⟩ := S.hs.cells hs hc
          obtain ⟨u, h6, h7⟩ := run_loadVar (P := P) (σ := σ) g1 (by omega) g4 ho hv
          obtain ⟨us, h1, h2⟩ := resA_ok S rs vs' hvs
          refine ⟨u :: us, ⟨by simp [h1.1], fun i x v hx hv => ?_⟩, ?_⟩
          · cases i with
            | zero =>
              simp only [List.getElem?_cons_zero, Option.some.injEq] at hx hv
              subst hx; subst hv; exact h6
            | succ i => simp only [List.getElem?_cons_succ] at hx hv; exact h1.2 i x v hx hv
          · rw [List.mapM_cons]
            have hA : (asAddr (.pointer (some ⟨r, o, none⟩))).run P w = .ok ⟨r, o, none⟩ w := rfl
            simp only [K.resF, Sem.run_bind, hev, hA, Result.andThen_ok, h7, h2, Sem.run_pure]
        · cases hh
      · cases hh
    · cases hh

theorem resOf_ok {σ : Sg} {vs : List AV} {us : List Value} (h : RelL σ vs us) : Rel σ (resOfA vs) (K.resOf us) := by
  match vs, us with
  | [], [] => exact .tup _ _ rfl (fun i a v ha => by simp [ofList, toList] at ha)
  | [v], [u] => exact h.2 0 v u rfl rfl
  | v :: v' :: vs, u :: u' :: us =>
    refine .tup _ _ ?_ (fun i a x ha hx => ?_)
    · rw [toList_ofList]; simpa using h.1
    · rw [toList_ofList] at ha
      exact h.2 i a x ha (by simpa using hx)
  | [], _ :: _ => exact absurd h.1 (by simp)
  | _ :: _, [] => exact absurd h.1 (by simp)
  | [_], _ :: _ :: _ => exact absurd h.1 (by simp)
  | _ :: _ :: _, [_] => exact absurd h.1 (by simp)

def XOk (P : Program) (G : Nat) (X : KF) : Prop := ∀ f args h nx v h' nx', X f args h nx = some (v, h', nx') → CallOk P G (2 * f) args h nx v h' nx'

theorem HS.df {σ : Sg} {h : AV} {nx : Nat} {w0 w : World} {B : Fr} (H : HS σ h nx w0 B w) {b r base size : Nat} (hb : σ b = some (r, base, size)) (hc : cget HD h b = .df) : w.heap[r]? = some (.deferred (some [])) ∧ (B.wr r ∨ w0.heap.size ≤ r) := by
  have := H.blk b (H.lt hb)
  rw [hc] at this
  obtain ⟨r', base', size', h1, h2, h3⟩ := this
  rw [hb] at h1
  simp only [Option.some.injEq, Prod.mk.injEq] at h1
  obtain ⟨rfl, rfl, rfl⟩ := h1
  exact ⟨h2, h3⟩

theorem takeA_ok {σ : Sg} {nx : Nat} {w0 : World} {B : Fr} {fn : Func} {tmps : Array Value} {R : Ending → World → Prop} : ∀ (dl : List Nat) (ds : List Deferred) (h h' : AV) (w : World), takeA dl h = some h' → HS σ h nx w0 B w → MarksRel σ dl ds →
    (∀ w', Dk nx h h' → HS σ h' nx w0 B w' → LeavesIn Fence.wide 0 P fn tmps R [] .returning w') → LeavesInM Fence.wide 0 P fn tmps R ds .returning w
  | [], ds, h, h', w, ht, H, hM, hL => by
    simp only [takeA, Option.some.injEq] at ht
    subst ht
    have : ds = [] := List.eq_nil_of_length_eq_zero hM.1.symm
    subst this
    exact hL w (Dk.refl _ _) H
  | b :: dl, ds, h, h', w, ht, H, hM, hL => by
    unfold takeA at ht
    split at ht
    · rename_i hdf
      match ds, hM with
      | [], hM => exact absurd hM.1 (by simp)
      | x :: ds, hM =>
        obtain ⟨r, base, size, h1, rfl⟩ := hM.2 0 b x rfl rfl
        obtain ⟨g1, g2⟩ := H.df h1 hdf
        have hgo : (getObj r).run P w = .ok (.deferred (some [])) w := by simp [getObj, Sem.run, g1]
        have hso : ∀ o, (setObj r o).run P w = .ok () { w with heap := w.heap.setIfInBounds r o } := fun o => by simp [setObj, Sem.run, g1]
        have H2 : HS σ (cput HD h b .dead) nx w0 B { w with heap := w.heap.setIfInBounds r (.deferred none) } := H.upd h1 (by rw [hdf]; rfl) g2 rfl rfl rfl rfl trivial
        have hdk : Dk nx h (cput HD h b .dead) := H.dkKill h1
        refine ⟨by simp, .inl ⟨r, _, rfl, ?_, takeA_ok dl ds _ h' _ ht H2 ⟨by have := hM.1; simpa using this, fun i c y hc hy => hM.2 (i + 1) c y (by simpa using hc) (by simpa using hy)⟩ (fun w' d H' => hL w' (hdk.trans d (Nat.le_refl _)) H')⟩⟩
        simp only [Instr.takeDeferred, Sem.run_bind, hgo, Result.andThen_ok, hso, Sem.run_pure]
    · cases ht

theorem putPs_ok {n d : Nat} {σ : Sg} : ∀ (ps : List Nat) (args : List AV) (vs : List Value) (tm : AV) (T : Array Value), RelL σ args vs → SlotRel [] σ n d tm { tmps := T, defers := [] } →
    SlotRel [] σ n d (putPs n d ps args tm) { tmps := (ps.zip vs).foldl (fun tmps x => tmps.setIfInBounds x.1 x.2) T, defers := [] }
  | [], _, _, _, _, _, S => by simpa [putPs] using S
  | _ :: _, [], vs, _, _, hr, S => by
    have : vs = [] := List.eq_nil_of_length_eq_zero hr.1.symm
    subst this
    simpa [putPs] using S
  | t :: ps, x :: args, [], _, _, hr, S => absurd hr.1 (by simp)
  | t :: ps, x :: args, v :: vs, tm, T, hr, S => by
    have h1 := hr.2 0 x v rfl rfl
    have h2 : RelL σ args vs := ⟨by have := hr.1; simpa using this, fun i a u ha hu => hr.2 (i + 1) a u (by simpa using ha) (by simpa using hu)⟩
    exact putPs_ok ps args vs _ _ h2 (put_ok (dst := some t) S h1)

theorem run_yield {r : Nat} {w : World} {rc : Loop} {ps : List Nat} {vs : List Value} (g1 : w.heap[r]? = some (.loop rc)) (hp : rc.params = ps.toArray) (hl : vs.length = ps.length) :
    (Instr.yield r vs.toArray).run P w = .ok (.round r rc.fn ((ps.zip vs).foldl (fun tmps x => tmps.setIfInBounds x.1 x.2) rc.tmps) rc.assign rc.body) w := by
  have hgo : (getObj r).run P w = .ok (.loop rc) w := by simp [getObj, Sem.run, g1]
  simp only [Instr.yield, Instr.getLoop, Sem.run_bind, hgo, Result.andThen_ok, Sem.run_pure, hp, List.size_toArray, hl, ne_eq, not_true, if_false]
  rw [← Array.foldl_toList]
  simp

theorem run_begin {r : Nat} {w : World} {rc : Loop} (g1 : w.heap[r]? = some (.loop rc)) (hs : rc.state = .ready) :
    (Instr.beginRound r).run P w = .ok () { w with heap := w.heap.setIfInBounds r (.loop { rc with state := .busy }) } := by
  have hgo : (getObj r).run P w = .ok (.loop rc) w := by simp [getObj, Sem.run, g1]
  have hso : ∀ o, (setObj r o).run P w = .ok () { w with heap := w.heap.setIfInBounds r o } := fun o => by simp [setObj, Sem.run, g1]
  simp only [Instr.beginRound, Instr.getLoop, Sem.run_bind, hgo, Result.andThen_ok, Sem.run_pure, hso, hs]

theorem run_end {r : Nat} {w : World} {rc : Loop} {j : Option Code} (g1 : w.heap[r]? = some (.loop rc)) :
    (Instr.endRound r j).run P w = .ok (.bool j.isNone) { w with heap := w.heap.setIfInBounds r (.loop { rc with state := if j.isNone then .ready else .done, pending := j }) } := by
  have hgo : (getObj r).run P w = .ok (.loop rc) w := by simp [getObj, Sem.run, g1]
  have hso : ∀ o, (setObj r o).run P w = .ok () { w with heap := w.heap.setIfInBounds r o } := fun o => by simp [setObj, Sem.run, g1]
  simp only [Instr.endRound, Instr.getLoop, Sem.run_bind, hgo, Result.andThen_ok, Sem.run_pure, hso]

/-- Another state of a loop's record. -/
theorem HS.setLp {σ : Sg} {h : AV} {nx : Nat} {w0 w : World} {B : Fr} (H : HS σ h nx w0 B w) {b r base size m : Nat} {ps : List Nat} {assign body : Code} {tm : AV} {st pend db : Nat} (hb : σ b = some (r, base, size)) (hc : cget HD h b = .lp m ps assign body tm st pend db) {rc : Loop}
    (g1 : w.heap[r]? = some (.loop rc)) {st' pend' : Nat} {s' : LoopState} {p' : Option Code} (hs : s' = stOf st') (hp : p' = pendOf pend') :
    HS σ (cput HD h b (.lp m ps assign body tm st' pend' db)) nx w0 B { w with heap := w.heap.setIfInBounds r (.loop { rc with state := s', pending := p' }) } := by
  obtain ⟨rc', dr, dbase, dsize, q1, q2, ⟨e1, e2, e3, e4, e5, e6, e7⟩, q4, q5⟩ := H.lp hb hc
  rw [g1] at q1
  simp only [Option.some.injEq, Obj.loop.injEq] at q1
  subst q1
  exact H.upd hb (by rw [hc]; rfl) q5 rfl rfl rfl rfl ⟨r, base, size, { rc with state := s', pending := p' }, dr, dbase, dsize, hb, by simp [lt_of_get g1], q2, ⟨hs, hp, e3, e4, e5, e6, e7⟩, q4, q5⟩

theorem roundA_ok {K : KF} (hK : KOk' P G K) {b : Nat} {args : List AV} {h : AV} {nx : Nat} {v h' : AV} {nx' : Nat} (hh : roundA P G K N b args h nx = some (v, h', nx')) : CallOk P G (2 * b + 1) args h nx v h' nx' := by
  intro σ w0 B w vs H hG hr
  unfold CalleeOk
  rw [if_neg (by omega), show (2 * b + 1) / 2 = b by omega]
  intro r base size hb
  unfold roundA at hh
  split at hh
  · rename_i n ps assign body tm st pe db hlp
    cases hq : (Nat.beq st 0 && Nat.beq args.length ps.length) with
    | false => simp [hq] at hh
    | true =>
      simp only [hq, cond_true] at hh
      simp only [Bool.and_eq_true] at hq
      have hst := beqn_iff.1 hq.1
      have hlen := beqn_iff.1 hq.2
      obtain ⟨rc, dr, dbase, dsize, g1, g2, ⟨e1, e2, e3, e4, e5, e6, e7⟩, g4, g5⟩ := H.lp hb hlp
      have hy := run_yield (P := P) (vs := vs) g1 e3 (by rw [← hr.1]; exact hlen)
      rw [e4, e5] at hy
      refine ⟨rc.fn, _, assign, body, hy, roundIn_of_wpIn (F := Fence.wide) trivial ?_⟩
      split at hh
      · rename_i tm1 h1 nx1 hx1
        split at hh
        · rename_i n' ps' as' bo' tm' st' pe' db' hlp1
          cases hq1 : Nat.beq st' 0 with
          | false => simp [hq1] at hh
          | true =>
            simp only [hq1, cond_true] at hh
            have hst1 := beqn_iff.1 hq1
            split at hh
            · rename_i e dl2 tm2 h2 nx2 hx2
              split at hh
              · rename_i n2 ps2 as2 bo2 tm2' st2 pe2 db2 hlp2
                simp only [Option.some.injEq, Prod.mk.injEq] at hh
                obtain ⟨rfl, rfl, rfl⟩ := hh
                have S0 : SimD (b + 1) (some r) n (lg n) G w0 B σ ([], putPs n (lg n) ps args tm, h, nx) { tmps := (ps.zip vs).foldl (fun tmps x => tmps.setIfInBounds x.1 x.2) rc.tmps, defers := [] } w :=
                  ⟨⟨r, base, size, hb, rfl⟩, [], MarksRel.nil _, ⟨putPs_ok ps args vs tm rc.tmps hr ⟨e7, rfl, lg_le _, g4⟩, hG, H⟩⟩
                refine wpIn_mono (execC_ok (ro := some r) hK (lg_le _) rfl assign _ .normal _ σ _ w hx1 S0) ?_
                rintro ex a1 w1 ⟨rfl, σ1, T1, S1⟩
                obtain ⟨hro1, ds1, hM1, S1⟩ := S1
                have hb1 := T1.sub _ _ hb
                have H1 : HS σ1 h1 nx1 w0 B w1 := S1.hs
                obtain ⟨rc1, _, _, _, f1, _, ⟨f2, _⟩, _, _⟩ := H1.lp hb1 hlp1
                have hds1 : ds1 = [] := List.eq_nil_of_length_eq_zero hM1.1.symm
                subst hds1
                refine ⟨_, run_begin f1 (by rw [f2, hst1]; rfl), ?_⟩
                have H1' := H1.setLp hb1 hlp1 f1 (st' := 1) (pend' := pe') (s' := .busy) (p' := rc1.pending) rfl (by
                  obtain ⟨rc1', _, _, _, z1, _, ⟨_, z2, _⟩, _, _⟩ := H1.lp hb1 hlp1
                  rw [f1] at z1; simp only [Option.some.injEq, Obj.loop.injEq] at z1; subst z1; exact z2)
                have S1' : SimD (b + 1) (some r) n (lg n) G w0 B σ1 ([], tm1, cput HD h1 b (.lp n' ps' as' bo' tm' 1 pe' db'), nx1) a1 { w1 with heap := w1.heap.setIfInBounds r (.loop { rc1 with state := .busy }) } :=
                  ⟨hro1, [], MarksRel.nil _, ⟨S1.sl, S1.g, H1'⟩⟩
                refine wpIn_mono (execC_ok (ro := some r) hK (lg_le _) rfl body _ e _ σ1 _ _ hx2 S1') ?_
                rintro ex a2 w2 ⟨rfl, σ2, T2, S2⟩
                obtain ⟨hro2, ds2, hM2, S2⟩ := S2
                have hb2 := T2.sub _ _ hb1
                have H2 : HS σ2 h2 nx2 w0 B w2 := S2.hs
                obtain ⟨rc2, _, _, _, y1, _⟩ := H2.lp hb2 hlp2
                have hdk : ∀ s p, Dk nx h (cput HD h2 b (.lp n2 ps2 as2 bo2 tm2' s p db2)) := fun s p c hc hlc => by
                  have hc1 : c < nx1 := Nat.lt_of_lt_of_le hc T1.2.2
                  have hc2 : c < nx2 := Nat.lt_of_lt_of_le hc1 T2.2.2
                  have k1 := H2.dkPut hb2 (by rw [hlp2]; rfl) c hc2 hlc
                  have k2 := T2.2.1 c hc1 k1
                  have k3 := H1.dkPut hb1 (by rw [hlp1]; rfl) c hc1 k2
                  exact T1.2.1 c hc k3
                have hsub : SubX nx σ σ2 := T1.1.trans T2.1 T1.2.2
                have hnx : nx ≤ nx2 := Nat.le_trans T1.2.2 T2.2.2
                cases e with
                | normal => exact ⟨_, _, run_end y1, σ2, _, hsub, hdk _ _, hnx, rfl, .bool _, H2.setLp hb2 hlp2 y1 rfl rfl⟩
                | ret => exact ⟨_, _, run_end y1, σ2, _, hsub, hdk _ _, hnx, rfl, .bool _, H2.setLp hb2 hlp2 y1 rfl rfl⟩
                | exit id => exact ⟨_, _, run_end y1, σ2, _, hsub, hdk _ _, hnx, rfl, .bool _, H2.setLp hb2 hlp2 y1 rfl rfl⟩
              · cases hh
            · cases hh
        · cases hh
      · cases hh
  · cases hh

theorem callA_ok (hX : XOk P G X) : ∀ (k : Nat), KOk' P G (callA P G X N k)
  | 0, f, args, h, nx, v, h', nx', hh => by simp [callA] at hh
  | k + 1, f, args, h, nx, v, h', nx', hh => by
    unfold callA at hh
    cases hodd : Nat.beq (f % 2) 1 with
    | true =>
      simp only [hodd, cond_true] at hh
      have h1 := beqn_iff.1 hodd
      have h2 := roundA_ok (callA_ok hX k) hh
      rwa [show 2 * (f / 2) + 1 = f by omega] at h2
    | false =>
      simp only [hodd, cond_false] at hh
      have h0 : f % 2 = 0 := by
        have : f % 2 ≠ 1 := fun e => by rw [beqn_iff.2 e] at hodd; cases hodd
        omega
      have hf2 : 2 * (f / 2) = f := by omega
      split at hh
      · rename_i r hr
        simp only [Option.some.injEq] at hh
        rw [hh] at hr
        have := hX (f / 2) args h nx v h' nx' hr
        rwa [hf2] at this
      · split at hh
        · cases hh
        · rename_i fn hf
          cases hb : (fn.name == "runtime.NumGoroutine" || !(Nat.ble args.length fn.ntmps)) with
          | true => simp [hb] at hh
          | false =>
            simp only [hb, cond_false] at hh
            simp only [Bool.or_eq_false_iff, Bool.not_eq_false'] at hb
            have hle := ble_iff.1 hb.2
            split at hh
            · cases hh
            · rename_i c hc
              split at hh
              · cases hh
              · rename_i e dl tm h1 nx1 hne hex
                split at hh
                · rename_i h2 ht
                  split at hh
                  · rename_i vs hvs
                    simp only [Option.some.injEq, Prod.mk.injEq] at hh
                    obtain ⟨rfl, rfl, rfl⟩ := hh
                    intro σ w0 B w us H hg hr
                    unfold CalleeOk
                    rw [if_pos h0]
                    refine ⟨⟨fn, c, hf, hb.1, hc⟩, (callsIn_wide (n := 0)).1 (callsIn_of_wp_marks (F := Fence.wide) hf hc trivial ?_)⟩
                    have S0 : SimD 0 none fn.ntmps (lg fn.ntmps) G w0 B σ ([], argsA (lg fn.ntmps) args 0 (fullA (lg fn.ntmps)), h, nx) { tmps := us.toArray ++ Array.replicate (fn.ntmps - us.toArray.size) Go.undef, defers := [] } w :=
                      ⟨rfl, [], MarksRel.nil _, ⟨slots_args hr hle, hg, H⟩⟩
                    refine wpIn_mono (execC_ok (ro := none) (callA_ok hX k) (lg_le _) rfl c _ e (dl, tm, h1, nx1) σ _ w hex S0) ?_
                    rintro e' a' w' ⟨rfl, σ', T, S'⟩
                    obtain ⟨_, ds', hM', S'⟩ := S'
                    have hpost : LeavesInM Fence.wide 0 P fn a'.tmps (fun e w' => ∃ σ' v', SubX nx σ σ' ∧ Dk nx h h2 ∧ nx ≤ nx1 ∧ e = .returned v' ∧ Rel σ' (resOfA vs) v' ∧ HS σ' h2 nx1 w0 B w') a'.defers .returning w' := by
                      rw [S'.sl.dfr]
                      refine takeA_ok (σ := σ') (nx := nx1) (w0 := w0) (B := B) dl ds' h1 h2 w' ht S'.hs hM' (fun w2 hdk H2 => ?_)
                      have S2 : Sim ds' fn.ntmps (lg fn.ntmps) G w0 B σ' (tm, h2, nx1) a' w2 := ⟨S'.sl, S'.g, H2⟩
                      obtain ⟨xs, r1, r2⟩ := resA_ok (P := P) S2 _ vs hvs
                      have hres : (Go.results fn a'.tmps).run P w2 = .ok (K.resOf xs) w2 := by
                        rw [K.results_eq, ← Array.toArray_toList (xs := fn.results), List.mapM_toArray]
                        simp only [Sem.run_bind, map_eq_pure_bind, r2, Result.andThen_ok, Sem.run_pure]
                        match xs with
                        | [] => rfl
                        | [v] => rfl
                        | _ :: _ :: _ => simp [K.resOf]
                      exact ⟨_, hres, σ', _, T.1, T.2.1.trans hdk T.2.2, T.2.2, rfl, resOf_ok r1, H2⟩
                    cases e with
                    | normal => exact hpost
                    | exit j => exact (hne j rfl).elim
                    | ret => exact hpost
                  · cases hh
                · cases hh
              · cases hh

theorem no_X : XOk P G (fun _ _ _ _ => none) := fun _ _ _ _ _ _ _ hh => by cases hh

/-- Nothing is known of memory. -/
def H0 : AV := .uni .dead

theorem HS.start (w : World) (B : Fr) : HS (fun _ => none) H0 0 w B w :=
  ⟨rfl, rfl, rfl, Nat.le_refl _, fun _ _ _ => rfl, fun b hb => trivial, fun b p h => (by cases h), Nat.zero_le _, fun b b' p p' _ h => (by cases h), fun b p h => (by cases h)⟩

/-- A closed call: it gives true, and all that lay is as it was. -/
theorem closed (k : Nat) {f : Nat} {h' : AV} {nx' : Nat} (hX : XOk P 0 X) (hrun : callA P 0 X N k (2 * f) [] H0 0 = some (.bool true, h', nx')) (w : World) :
    Calls P f #[] w fun e w' => e = .returned (.bool true) ∧ K.Ext [] w w' := by
  have hc := callA_ok hX k (2 * f) [] H0 0 _ _ _ hrun (fun _ => none) w ⟨fun _ => False, fun _ => False⟩ w [] (HS.start w _) (fun g hg => by omega) ⟨rfl, fun i a v ha => by simp at ha⟩
  unfold CalleeOk at hc
  rw [if_pos (by omega), show 2 * f / 2 = f by omega] at hc
  refine hc.2.mono ?_
  rintro e w' ⟨σ', v', _, _, _, rfl, hr, H⟩
  cases hr
  exact ⟨rfl, H.os, H.tape, H.output, H.size, fun k hk _ => H.block k hk (fun h => h)⟩

def isTrue : Option (AV × AV × Nat) → Bool
  | some (.bool true, _, _) => true
  | _ => false

/-- The same, where the kernel runs it. -/
theorem closed_run (k : Nat) {f : Nat} (hX : XOk P 0 X) (hrun : isTrue (callA P 0 X N k (2 * f) [] H0 0) = true) (w : World) :
    Calls P f #[] w fun e w' => e = .returned (.bool true) ∧ K.Ext [] w w' := by
  unfold isTrue at hrun
  split at hrun
  · rename_i h' nx' hr
    exact closed k hX hr w
  · cases hrun

end
end I
end Go.Proofs.YtpaekplhcjleaaaGreatDoor
