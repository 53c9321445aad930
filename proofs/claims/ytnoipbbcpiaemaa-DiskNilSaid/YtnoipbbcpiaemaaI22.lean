import Derived.Test.YtnoipbbcpiaemaaI21
namespace Go.Proofs.Ytnoipbbcpiaemaa
namespace I
open K (one aggB run_underlying' run_sizeOf' add_none run_v cell_cells)
set_option linter.unusedVariables false

/-! ### Calls -/
def argsA (d : Nat) : List AV → Nat → AV → AV
  | [], _, t => t
  | a :: l, i, t => argsA d l (i + 1) (cput d t i a)

def resA (P : Program) (n d : Nat) (tm h : AV) : List ResultVar → Option (List AV)
  | [] => some []
  | .tmp t :: l => match resA P n d tm h l with
    | some vs => some ((bif Nat.blt t n then cget d tm t else .undef) :: vs)
    | none => none
  | .cell t ty :: l => match (bif Nat.blt t n then cget d tm t else .undef) with
    | .ptr b off => match cget HD h b with
      | .cells _ m _ t => match apartA P ty m t off, resA P n d tm h l with
        | some v, some vs => some (v :: vs)
        | _, _ => none
      | _ => none
    | _ => none

def resOfA : List AV → AV
  | [v] => v
  | vs => .tup (ofList vs)

/-- A call: X knows some calls by themselves. -/
def callA (P : Program) (G : Nat) (X : KF) (N : Nat) : Nat → KF
  | 0, _, _, _, _ => none
  | k + 1, f, args, h, nx => match X f args h nx with
    | some r => some r
    | none => match P.funcs[f]? with
      | none => none
      | some fn => bif fn.name == "runtime.NumGoroutine" || !(Nat.ble args.length fn.ntmps) then none else
        match fn.body with
        | none => none
        | some c => match execC P G fn.ntmps (lg fn.ntmps) (callA P G X N k) N c (argsA (lg fn.ntmps) args 0 (unid (lg fn.ntmps) .undef), h, nx) with
          | some (.exit _, _) => none
          | some (_, (tm, h', nx')) => match resA P fn.ntmps (lg fn.ntmps) tm h' fn.results.toList with
            | some vs => some (resOfA vs, h', nx')
            | none => none
          | none => none

section
variable {P : Program} {G N : Nat} {X : KF}

theorem argsA_get {d n : Nat} (hn : n ≤ 2 ^ d) : ∀ (l : List AV) (i : Nat) (t : AV) (j : Nat), i + l.length ≤ n → j < n → cget d (argsA d l i t) j = if i ≤ j ∧ j < i + l.length then l.getD (j - i) .undef else cget d t j
  | [], i, t, j, _, _ => by rw [if_neg (by simp)]; rfl
  | a :: l, i, t, j, h, hj => by
    simp only [List.length_cons] at h
    rw [argsA, argsA_get hn l (i + 1) _ j (by omega) hj, cget_cput d t i j a (by omega) (by omega)]
    by_cases hji : j = i
    · subst hji
      rw [if_neg (by omega), if_pos rfl, if_pos (by simp)]
      simp
    · rw [if_neg hji]
      by_cases hin : i + 1 ≤ j ∧ j < i + 1 + l.length
      · rw [if_pos hin, if_pos (by simp; omega), show j - i = (j - (i + 1)) + 1 by omega, List.getD_cons_succ]
      · rw [if_neg hin, if_neg (by simp; omega)]

theorem slots_args {σ : Sg} {n : Nat} {args : List AV} {vs : List Value} (hr : RelL σ args vs) (hle : args.length ≤ n) :
    SlotRel σ n (lg n) (argsA (lg n) args 0 (unid (lg n) .undef)) { tmps := vs.toArray ++ Array.replicate (n - vs.toArray.size) Go.undef, defers := [] } := by
  have hl := hr.1
  have hn := lg_le n
  refine ⟨by simp; omega, rfl, hn, fun t ht => ?_⟩
  rw [argsA_get hn args 0 _ t (by omega) ht, Array.getD_eq_getD_getElem?]
  by_cases hlt : t < args.length
  · rw [if_pos (by omega), Nat.sub_zero, Array.getElem?_append_left (by simp; omega)]
    have h1 : args[t]? = some args[t] := List.getElem?_eq_getElem hlt
    have h2 : vs[t]? = some (vs[t]'(by omega)) := List.getElem?_eq_getElem _
    rw [List.getD_eq_getElem?_getD, h1, List.getElem?_toArray, h2]
    exact hr.2 t _ _ h1 h2
  · rw [if_neg (by omega), cget_unid, Array.getElem?_append_right (by simp; omega)]
    have : (Array.replicate (n - vs.toArray.size) Go.undef)[t - vs.toArray.size]? = some Go.undef := by
      rw [Array.getElem?_replicate, if_pos (by simp only [List.size_toArray]; omega)]
    rw [this]
    exact .undef

theorem resA_ok {n d : Nat} {w0 w : World} {B : Fr} {σ : Sg} {tm h : AV} {nx : Nat} {a : Act} (S : Sim n d G w0 B σ (tm, h, nx) a w) : ∀ (rs : List ResultVar) (vs : List AV), resA P n d tm h rs = some vs →
    ∃ us : List Value, RelL σ vs us ∧ (rs.mapM (K.resF a.tmps)).run P w = .ok us w
  | [], vs, hh => by
    simp only [resA, Option.some.injEq] at hh
    subst hh
    exact ⟨[], ⟨rfl, fun i a v ha => by simp at ha⟩, rfl⟩
  | .tmp t :: rs, vs, hh => by
    unfold resA at hh
    split at hh
    · rename_i vs' hv
      simp only [Option.some.injEq] at hh
      subst hh
      obtain ⟨us, h1, h2⟩ := resA_ok S rs vs' hv
      have h3 := opnd_ok S.sl S.g (.tmp t)
      refine ⟨a.tmps.getD t Go.undef :: us, ⟨by simp [h1.1], fun i x v hx hv => ?_⟩, ?_⟩
      · cases i with
        | zero =>
          simp only [List.getElem?_cons_zero, Option.some.injEq] at hx hv
          subst hx; subst hv; exact h3
        | succ i => simp only [List.getElem?_cons_succ] at hx hv; exact h1.2 i x v hx hv
      · rw [List.mapM_cons]
        simp only [K.resF, Sem.run_bind, Sem.run_pure, Result.andThen_ok, h2]
    · cases hh
  | .cell t ty :: rs, vs, hh => by
    unfold resA at hh
    have h3 := opnd_ok S.sl S.g (.tmp t)
    simp only [opndA] at h3
    split at hh
    · rename_i b off he
      rw [he] at h3
      simp only [Act.eval] at h3
      generalize hev : a.tmps.getD t Go.undef = tv at h3
      cases h3 with
      | ptr _ _ r base size o hs ho =>
      split at hh
      · rename_i ety m ro t' hc
        split at hh
        · rename_i v vs' hv hvs
          simp only [Option.some.injEq] at hh
          subst hh
          obtain ⟨cs, fr, g1, g2, g3, g4, g5⟩ := S.hs.cells hs hc
          obtain ⟨u, h6, h7⟩ := run_loadVar (P := P) (σ := σ) g1 (by omega) g4 ho hv
          obtain ⟨us, h1, h2⟩ := resA_ok S rs vs' hvs
          refine ⟨u :: us, ⟨by simp [h1.1], fun i x v hx hv => ?_⟩, ?_⟩
          · cases i with
            | zero =>
              simp only [List.getElem?_cons_zero, Option.some.injEq] at hx hv
              subst hx; subst hv; exact h6
            | succ i => simp only [List.getElem?_cons_succ] at hx hv; exact h1.2 i x v hx hv
          · rw [List.mapM_cons]
            have hA : (asAddr (.pointer (some ⟨r, o, none⟩))).run P w = .ok ⟨r, o, none⟩ w := rfl
            simp only [K.resF, Sem.run_bind, hev, hA, Result.andThen_ok, h7, h2, Sem.run_pure]
        · cases hh
      · cases hh
    · cases hh

theorem resOf_ok {σ : Sg} {vs : List AV} {us : List Value} (h : RelL σ vs us) : Rel σ (resOfA vs) (K.resOf us) := by
  match vs, us with
  | [], [] => exact .tup _ _ rfl (fun i a v ha => by simp [ofList, toList] at ha)
  | [v], [u] => exact h.2 0 v u rfl rfl
  | v :: v' :: vs, u :: u' :: us =>
    refine .tup _ _ ?_ (fun i a x ha hx => ?_)
    · rw [toList_ofList]; simpa using h.1
    · rw [toList_ofList] at ha
      exact h.2 i a x ha (by simpa using hx)
  | [], _ :: _ => exact absurd h.1 (by simp)
  | _ :: _, [] => exact absurd h.1 (by simp)
  | [_], _ :: _ :: _ => exact absurd h.1 (by simp)
  | _ :: _ :: _, [_] => exact absurd h.1 (by simp)

theorem callA_ok (hX : KOk' P G X) : ∀ (k : Nat), KOk' P G (callA P G X N k)
  | 0, f, args, h, nx, v, h', nx', hh => by simp [callA] at hh
  | k + 1, f, args, h, nx, v, h', nx', hh => by
    unfold callA at hh
    split at hh
    · rename_i r hr
      simp only [Option.some.injEq] at hh
      rw [hh] at hr
      exact hX f args h nx v h' nx' hr
    · split at hh
      · cases hh
      · rename_i fn hf
        cases hb : (fn.name == "runtime.NumGoroutine" || !(Nat.ble args.length fn.ntmps)) with
        | true => simp [hb] at hh
        | false =>
          simp only [hb, cond_false] at hh
          simp only [Bool.or_eq_false_iff, Bool.not_eq_false'] at hb
          have hle := ble_iff.1 hb.2
          split at hh
          · cases hh
          · rename_i c hc
            split at hh
            · cases hh
            · rename_i e tm h1 nx1 hne hex
              split at hh
              · rename_i vs hvs
                simp only [Option.some.injEq, Prod.mk.injEq] at hh
                obtain ⟨rfl, rfl, rfl⟩ := hh
                refine ⟨⟨fn, c, hf, hb.1, hc⟩, fun σ w0 B w us H hg hr => ?_⟩
                refine calls_of_wp hf hc ?_
                have S0 : Sim fn.ntmps (lg fn.ntmps) G w0 B σ (argsA (lg fn.ntmps) args 0 (unid (lg fn.ntmps) .undef), h, nx) { tmps := us.toArray ++ Array.replicate (fn.ntmps - us.toArray.size) Go.undef, defers := [] } w := ⟨slots_args hr hle, hg, H⟩
                refine wp_mono (execC_ok (callA_ok hX k) (lg_le _) c _ e (tm, h1, nx1) σ _ w hex S0) ?_
                rintro e' a' w' ⟨rfl, σ', T, S'⟩
                obtain ⟨xs, r1, r2⟩ := resA_ok (P := P) S' _ vs hvs
                have hres : (Go.results fn a'.tmps).run P w' = .ok (K.resOf xs) w' := by
                  rw [K.results_eq, ← Array.toArray_toList (xs := fn.results), List.mapM_toArray]
                  simp only [Sem.run_bind, map_eq_pure_bind, r2, Result.andThen_ok, Sem.run_pure]
                  match xs with
                  | [] => rfl
                  | [v] => rfl
                  | _ :: _ :: _ => simp [K.resOf]
                have hpost : a'.defers = [] ∧ ∃ v, (Go.results fn a'.tmps).run P w' = .ok v w' ∧ ∃ σ' v', SubX nx σ σ' ∧ Dk nx h h1 ∧ nx ≤ nx1 ∧ Ending.returned v = .returned v' ∧ Rel σ' (resOfA vs) v' ∧ HS σ' h1 nx1 w0 B w' :=
                  ⟨S'.sl.dfr, _, hres, σ', _, T.1, T.2.1, T.2.2, rfl, resOf_ok r1, S'.hs⟩
                cases e with
                | normal => exact hpost
                | exit j => exact (hne j rfl).elim
                | ret => exact hpost
              · cases hh
            · cases hh

theorem no_X : KOk' P G (fun _ _ _ _ => none) := fun _ _ _ _ _ _ _ hh => by cases hh

/-- Nothing is known of memory. -/
def H0 : AV := .uni .dead

theorem HS.start (w : World) (B : Fr) : HS (fun _ => none) H0 0 w B w :=
  ⟨rfl, rfl, rfl, Nat.le_refl _, fun _ _ _ => rfl, fun b hb => trivial, fun b p h => (by cases h), Nat.zero_le _, fun b b' p p' _ h => (by cases h), fun b p h => (by cases h)⟩

/-- A closed call: it gives true, and all that lay is as it was. -/
theorem closed (k : Nat) {f : Nat} {h' : AV} {nx' : Nat} (hX : KOk' P 0 X) (hrun : callA P 0 X N k f [] H0 0 = some (.bool true, h', nx')) (w : World) :
    Calls P f #[] w fun e w' => e = .returned (.bool true) ∧ K.Ext [] w w' := by
  obtain ⟨_, hc⟩ := callA_ok hX k f [] H0 0 _ _ _ hrun
  refine (hc (fun _ => none) w ⟨fun _ => False, fun _ => False⟩ w [] (HS.start w _) (fun g hg => by omega) ⟨rfl, fun i a v ha => by simp at ha⟩).mono ?_
  rintro e w' ⟨σ', v', _, _, _, rfl, hr, H⟩
  cases hr
  exact ⟨rfl, H.os, H.tape, H.output, H.size, fun k hk _ => H.block k hk (fun h => h)⟩

def isTrue : Option (AV × AV × Nat) → Bool
  | some (.bool true, _, _) => true
  | _ => false

/-- The same, where the kernel runs it. -/
theorem closed_run (k : Nat) {f : Nat} (hX : KOk' P 0 X) (hrun : isTrue (callA P 0 X N k f [] H0 0) = true) (w : World) :
    Calls P f #[] w fun e w' => e = .returned (.bool true) ∧ K.Ext [] w w' := by
  unfold isTrue at hrun
  split at hrun
  · rename_i h' nx' hr
    exact closed k hX hr w
  · cases hrun

end
end I
end Go.Proofs.Ytnoipbbcpiaemaa
