/- Rounds: a range over a function, its body in rounds, the marks that it leaves on the call. -/
import Derived.Test.YtoopekjbikcebaaDoorK8
import Derived.RangeFuncNested
namespace Go.Proofs.YtoopekjbikcebaaDoor
namespace K
set_option linter.unusedVariables false

def mkd (b : Nat) : Deferred := { target := .collected b, args := #[] }

/-- A call in which functions may be ranged over: what is asked at its end. -/
def Q0M (P : Program) (fn : Func) (post : Ending → World → Prop) : Exit → Act → World → Prop
  | .normal, a, w | .ret, a, w => LeavesInM Fence.wide 0 P fn a.tmps (noOut post) a.defers .returning w
  | _, _, _ => False

def Cx.marks (P : Program) (fn : Func) (post : Ending → World → Prop) (w0 : World) (M : List Nat) (D : List Nat) : Cx where
  P := P
  fn := fn
  post := post
  w0 := w0
  M := M
  ro := none
  D := D.map mkd
  Q0 := Q0M P fn post
  po := fun c a w d v h => h.elim
  lo := fun ⟨a, w, h⟩ => h.elim
  rt := fun h a w v hd hr hp => by
    rw [h] at hd
    have hx : LeavesInM Fence.wide 0 P fn a.tmps (noOut post) a.defers .returning w := by
      rw [hd]
      exact ⟨v, hr, by simp, hp⟩
    exact ⟨hx, hx⟩

/-- A call is its body's configuration, functions may be ranged over. -/
theorem enterM {P : Program} {f : FuncId} {fn : Func} {c : Code} {vs : List Value} {w : World} {post : Ending → World → Prop} (M : List Nat) (R O : List (Nat × Obj)) (hf : P.funcs[f]? = some fn) (hb : fn.body = some c)
    (hn0 : Nat.ble vs.length fn.ntmps = true) (hp : HP w M R O w) (h : Cfg (Cx.marks P fn post w M []) R O (argsΓ 0 vs) [.inl c]) : Calls P f vs.toArray w post := by
  have hn : vs.length ≤ fn.ntmps := Nat.le_of_ble_eq_true hn0
  have hst : St fn.ntmps [] (argsΓ 0 vs) { tmps := vs.toArray ++ Array.replicate (fn.ntmps - vs.toArray.size) Go.undef, defers := [] } := by
    refine ⟨by simp; omega, rfl, ?_⟩
    intro e he
    obtain ⟨h1, _, h3⟩ := argsΓ_mem he
    rw [h1]
    refine ⟨fun _ => ?_, fun hh => absurd (holds_nil _) hh⟩
    have hlt : e.1 < vs.length := by
      rcases Nat.lt_or_ge e.1 vs.length with hh | hh
      · exact hh
      · rw [Nat.sub_zero, List.getElem?_eq_none hh] at h3; cases h3
    rw [Nat.sub_zero] at h3
    rw [Array.getD_eq_getD_getElem?, Array.getElem?_append_left (by simpa using hlt)]
    simp [h3]
  refine ((callsIn_wide (n := 0)).1 (callsIn_of_wp_marks (F := Fence.wide) (R := noOut post) hf hb trivial ?_)).mono (fun e w' he => he.2)
  have := h _ w hst hp
  refine wpIn_mono (F := Fence.wide) this ?_
  intro e a' w' hq
  cases e with
  | normal => exact hq
  | ret => exact hq
  | _ => exact hq.elim

section
variable {C : Cx} {R O : List (Nat × Obj)} {Γ Γ' : Env} {ks ks' : List KI} {ops : Array Oper}

/-- One mark is taken. -/
theorem HP.takeMark {w0 w : World} {M : List Nat} (h : HP w0 M R O w) {b : Nat} (hb : (b, Obj.deferred (some [])) ∈ O) {O' : List (Nat × Obj)} (hO : O'.Sublist O) (hn : b ∉ O'.map (·.1)) :
    HP w0 M R O' { w with heap := w.heap.setIfInBounds b (.deferred none) } :=
  h.call (ext_set w b _) O' hO (fun k hk => by
    simp only [List.mem_cons, List.not_mem_nil, or_false] at hk
    subst hk
    exact List.mem_map.2 ⟨_, hb, rfl⟩) (fun e he hm => by
    simp only [List.mem_cons, List.not_mem_nil, or_false] at hm
    exact hn (List.mem_map.2 ⟨e, he, hm⟩))

def markO (D : List Nat) : List (Nat × Obj) := D.map fun b => (b, Obj.deferred (some []))

theorem leaves_marks {P : Program} {fn : Func} {w0 : World} {M : List Nat} {tm : Array Value} {R : List (Nat × Obj)} {post : Ending → World → Prop} {O : List (Nat × Obj)}
    (hend : ∀ w, HP w0 M R O w → ∃ v, (Go.results fn tm).run P w = .ok v w ∧ post (.returned v) w) : ∀ (D : List Nat) (w : World), HP w0 M R (markO D ++ O) w → LeavesInM Fence.wide 0 P fn tm (noOut post) (D.map mkd) .returning w
  | [], w, h => by
    obtain ⟨v, h1, h2⟩ := hend w h
    exact ⟨v, h1, by simp, h2⟩
  | b :: D, w, h => by
    have hb : w.heap[b]? = some (.deferred (some [])) := h.own (b, _) (List.mem_cons_self ..)
    have hgo : (getObj b).run P w = .ok (.deferred (some [])) w := by simp [getObj, Sem.run, hb]
    have hso : ∀ o, (setObj b o).run P w = .ok () { w with heap := w.heap.setIfInBounds b o } := fun o => by simp [setObj, Sem.run, hb]
    have hd : b ∉ (markO D ++ O).map (·.1) := (List.nodup_cons.1 h.dist).1
    refine ⟨by simp, .inl ⟨b, _, rfl, ?_, leaves_marks hend D _ (h.takeMark (List.mem_cons_self ..) (List.sublist_cons_self ..) hd)⟩⟩
    simp only [Instr.takeDeferred, Sem.run_bind, hgo, Result.andThen_ok, hso, Sem.run_pure]

/-- The end of a call that has marks. -/
theorem Cfg.retM {P : Program} {fn : Func} {post : Ending → World → Prop} {w0 : World} {M D : List Nat} {O' : List (Nat × Obj)} (hk : K.nrm 99 ks = .inl .ret :: ks') {rs : List ResultVar} (hr : fn.results = rs.toArray) (vs : List Value) (hO : (markO D ++ O').Sublist O)
    (hv : Res (Cx.marks P fn post w0 M D) R O' Γ rs vs) (hp : ∀ w, HP w0 M R O' w → post (.returned (resOf vs)) w) : Cfg (Cx.marks P fn post w0 M D) R O Γ ks := by
  refine Cfg.nrm ?_
  rw [hk]
  intro a w hs h
  refine wpIn_ret (aft_ret ks' ?_)
  show LeavesInM Fence.wide 0 P fn a.tmps (noOut post) a.defers .returning w
  have hd : a.defers = D.map mkd := hs.dfr
  rw [hd]
  exact leaves_marks (fun w' h' => ⟨_, hv.out (C := Cx.marks P fn post w0 M D) hs h' hr, hp w' h'⟩) D w (h.sub hO)

theorem Cfg.finM {P : Program} {fn : Func} {post : Ending → World → Prop} {w0 : World} {M D : List Nat} {O' : List (Nat × Obj)} (hk : K.nrm 99 ks = []) {rs : List ResultVar} (hr : fn.results = rs.toArray) (vs : List Value) (hO : (markO D ++ O').Sublist O)
    (hv : Res (Cx.marks P fn post w0 M D) R O' Γ rs vs) (hp : ∀ w, HP w0 M R O' w → post (.returned (resOf vs)) w) : Cfg (Cx.marks P fn post w0 M D) R O Γ ks := by
  refine Cfg.nrm ?_
  rw [hk]
  intro a w hs h
  show LeavesInM Fence.wide 0 P fn a.tmps (noOut post) a.defers .returning w
  have hd : a.defers = D.map mkd := hs.dfr
  rw [hd]
  exact leaves_marks (fun w' h' => ⟨_, hv.out (C := Cx.marks P fn post w0 M D) hs h' hr, hp w' h'⟩) D w (h.sub hO)

/-- The record of a loop over a function. -/
def rec0 (fi : FuncId) (T : Array Value) (ps : Array Tmp) (assign body : Code) (dr : Nat) (st : LoopState) (pe : Option Code) : Loop := { state := st, pending := pe, fn := fi, tmps := T, params := ps, assign := assign, body := body, defers := dr }

/-- A range over a function, in no round. -/
theorem Cfg.range {P : Program} {fn fn' : Func} {c' : Code} {post : Ending → World → Prop} {w0 : World} {M D : List Nat} {g : Operand} {ps : Array Tmp} {assign body : Code} (hk : K.nrm 99 ks = .inl (.rangeFunc g ps assign body) :: ks')
    {f : FuncId} {caps : Array Value} (hg : opd Γ [] g = some (.func (.func f) #[] caps)) (hf : P.funcs[f]? = some fn') (hnm : (fn'.name == "runtime.NumGoroutine") = false) (hb : fn'.body = some c')
    {ι : Type} (F : ι → Prop) (O' : ι → List (Nat × Obj)) (st : ι → LoopState) (pe : ι → Option Code) (hst : ∀ x, (st x == LoopState.busy) = false)
    (hcall : ∀ (fi : FuncId) (l dr : Nat) (T : Array Value) (w1 : World), St fn.ntmps [] Γ { tmps := T, defers := [] } → w0.heap.size ≤ l → w0.heap.size ≤ dr → HP w0 M R ((l, .loop (rec0 fi T ps assign body dr .ready none)) :: (dr, .deferred (some [])) :: O) w1 →
      Calls P f (#[.func (.yield l) #[] #[]] ++ caps) w1 fun e w2 => (∃ v, e = .returned v) ∧ ∃ x, F x ∧ HP w0 M R ((l, .loop (rec0 fi T ps assign body dr (st x) (pe x))) :: (dr, .deferred (some [])) :: O' x) w2)
    (next : ∀ dr x, F x → Cfg (Cx.marks P fn post w0 M (dr :: D)) R ((dr, .deferred (some [])) :: O' x) Γ (match pe x with | none => ks' | some c => .inl c :: ks')) :
    Cfg (Cx.marks P fn post w0 M D) R O Γ ks := by
  refine Cfg.nrm ?_
  rw [hk]
  intro a w hs hp
  have hgv : a.eval g = .func (.func f) #[] caps := opd_ok hs (holds_nil _) hg
  have hs' : St fn.ntmps [] Γ { tmps := a.tmps, defers := [] } := ⟨hs.size, rfl, hs.sl⟩
  refine wpIn_rangeFunc fun fi _ => ?_
  have hp1 := (hp.alloc (.deferred (some []))).alloc (.loop (rec0 fi a.tmps ps assign body w.heap.size .ready none))
  have hsz : (w.alloc (.deferred (some []))).heap.size = w.heap.size + 1 := World.size_alloc ..
  rw [hsz] at hp1
  have hw0 : w0.heap.size ≤ w.heap.size := hp.ext.size
  let W1 : World := (w.alloc (.deferred (some []))).alloc (.loop (rec0 fi a.tmps ps assign body w.heap.size .ready none))
  refine ⟨w.heap.size + 1, [mkd w.heap.size], W1, { target := .fn (.func f) caps, args := #[.func (.yield (w.heap.size + 1)) #[] #[]] }, W1, f, #[.func (.yield (w.heap.size + 1)) #[] #[]] ++ caps, W1, run_enterLoop_outer _ _ _ _ _, ?_, fun _ _ => trivial, ?_, fun h => (by cases h), ?_⟩
  · simp only [resolve, hgv]
    simp [go_sem]
  · show (callFunc f (#[Value.func (.yield (w.heap.size + 1)) #[] #[]] ++ caps)).run P _ = _
    exact run_callFunc hf hnm hb
  · refine (callsIn_fen (ro := none) (hcall fi (w.heap.size + 1) w.heap.size a.tmps _ hs' (by omega) hw0 hp1)).mono ?_
    rintro e w2 ⟨⟨v, rfl⟩, x, hx, hp2⟩
    have g1 : w2.heap[w.heap.size + 1]? = some (.loop (rec0 fi a.tmps ps assign body w.heap.size (st x) (pe x))) := hp2.own _ (List.mem_cons_self ..)
    have hgo : (getObj (w.heap.size + 1)).run P w2 = .ok (.loop (rec0 fi a.tmps ps assign body w.heap.size (st x) (pe x))) w2 := by simp [getObj, Sem.run, g1]
    have hso : ∀ o, (setObj (w.heap.size + 1) o).run P w2 = .ok () { w2 with heap := w2.heap.setIfInBounds (w.heap.size + 1) o } := fun o => by simp [setObj, Sem.run, g1]
    have hend : (Instr.endLoop (w.heap.size + 1)).run P w2 = .ok (pe x) { w2 with heap := w2.heap.setIfInBounds (w.heap.size + 1) (.loop { rec0 fi a.tmps ps assign body w.heap.size (st x) (pe x) with state := .exhausted }) } := by
      have hbz : ((rec0 fi a.tmps ps assign body w.heap.size (st x) (pe x)).state == LoopState.busy) = false := hst x
      simp only [Instr.endLoop, Instr.getLoop, Sem.run_bind, hgo, Result.andThen_ok, Sem.run_pure, hbz, Bool.false_eq_true, if_false, hso]
      rfl
    have hp3 := hp2.set 0 (.loop { rec0 fi a.tmps ps assign body w.heap.size (st x) (pe x) with state := .exhausted }) rfl (w' := { w2 with heap := w2.heap.setIfInBounds (w.heap.size + 1) (.loop { rec0 fi a.tmps ps assign body w.heap.size (st x) (pe x) with state := .exhausted }) }) rfl rfl rfl rfl
    have hp4 := hp3.sub (O' := (w.heap.size, .deferred (some [])) :: O' x) (List.sublist_cons_self ..)
    have hs4 : St fn.ntmps ((w.heap.size :: D).map mkd) Γ { a with defers := [mkd w.heap.size] ++ a.defers } := ⟨hs.size, by show [mkd w.heap.size] ++ a.defers = _; rw [hs.dfr]; rfl, hs.sl⟩
    have hn := next w.heap.size x hx _ _ hs4 hp4
    refine ⟨pe x, _, hend, ?_⟩
    revert hn
    cases pe x with
    | none => exact fun hn => hn
    | some c => exact fun hn => hn

end
end K
end Go.Proofs.YtoopekjbikcebaaDoor
