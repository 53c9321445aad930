/- Operations that do something: calls, new memory, stores. -/
import Derived.Test.YtoopekjbikcebaaDoorK6
namespace Go.Proofs.YtoopekjbikcebaaDoor
namespace K

section
variable {C : Cx} {R O : List (Nat × Obj)} {Γ : Env} {o : Oper}

/-- What an operation's run comes to. -/
theorem Eff.of_run {ι : Type} {V : ι → Value} {O' : ι → List (Nat × Obj)} {F : ι → Prop}
    (h : ∀ a w, St C.fn.ntmps C.D Γ a → HP C.w0 C.M R O w → ∃ x w', F x ∧ (execOp a.eval o).run C.P w = .ok (.value (V x)) w' ∧ HP C.w0 C.M R (O' x) w') : Eff C R O Γ o ι V O' F := by
  intro a w hs hp Kt Q hK
  obtain ⟨x, w', hx, hr, hp'⟩ := h a w hs hp
  unfold Oper.wp
  rw [hr]
  exact hK x w' hx hp'

/-- A store has no value. -/
theorem Eff.of_skip {ι : Type} {O' : ι → List (Nat × Obj)} {F : ι → Prop}
    (h : ∀ a w, St C.fn.ntmps C.D Γ a → HP C.w0 C.M R O w → ∃ x w', F x ∧ (execOp a.eval o).run C.P w = .ok .skip w' ∧ HP C.w0 C.M R (O' x) w') : Eff C R O Γ o ι (fun _ => undef) O' F := by
  intro a w hs hp Kt Q hK
  obtain ⟨x, w', hx, hr, hp'⟩ := h a w hs hp
  unfold Oper.wp
  rw [hr]
  exact hK x w' hx hp'

def opds (Γ : Env) : List Operand → Option (List Value)
  | [] => some []
  | x :: l => match opd Γ [] x, opds Γ l with
    | some v, some vs => some (v :: vs)
    | _, _ => none

theorem opds_ok {n : Nat} {D : List Deferred} {a : Act} (hs : St n D Γ a) : ∀ {l : List Operand} {vs : List Value}, opds Γ l = some vs → l.map a.eval = vs
  | [], vs, h => by simp only [opds, Option.some.injEq] at h; rw [← h]; rfl
  | x :: l, vs, h => by
    unfold opds at h
    split at h
    · rename_i v us h1 h2
      simp only [Option.some.injEq] at h
      rw [← h, List.map_cons, opd_ok hs (holds_nil _) h1, opds_ok hs h2]
    · cases h

theorem run_callFunc {P : Program} {f : FuncId} {fn : Func} {c : Code} {args : Array Value} {w : World} (hf : P.funcs[f]? = some fn) (hnm : (fn.name == "runtime.NumGoroutine") = false) (hb : fn.body = some c) :
    (callFunc f args).run P w = .ok (.enter f args) w := by
  have h1 : ¬ fn.name = "runtime.NumGoroutine" := by simpa using hnm
  simp [callFunc, program, Sem.run, hf, h1, hb]

/-- A call of a named function, by its contract. -/
theorem Eff.call {f : FuncId} {fn : Func} {c : Code} {xs : List Operand} {tys : Array TypeId} (ho : o.op = .call ⟨.value (.func f), xs.toArray, tys⟩) (hf : C.P.funcs[f]? = some fn) (hnm : (fn.name == "runtime.NumGoroutine") = false) (hb : fn.body = some c)
    {vs : List Value} (hx : opds Γ xs = some vs) {ι : Type} {V : ι → Value} {O' : ι → List (Nat × Obj)} {F : ι → Prop}
    (h : ∀ w, HP C.w0 C.M R O w → Calls C.P f vs.toArray w fun e w' => ∃ x, F x ∧ e = .returned (V x) ∧ HP C.w0 C.M R (O' x) w') : Eff C R O Γ o ι V O' F := by
  intro a w hs hp Kt Q hK
  have hargs := opds_ok hs hx
  have hrun : (execOp a.eval o).run C.P w = .ok (.enter f vs.toArray) w := by
    simp [execOp, ho, resolve, Deferred.ofValue, Act.eval, invoke, hargs, run_callFunc hf hnm hb]
  unfold Oper.wp
  rw [hrun]
  refine (h w hp).mono ?_
  rintro e w' ⟨x, hx, rfl, hp'⟩
  exact hK x w' hx hp'

/-- New memory. -/
theorem Eff.alloc {t : TypeId} {z : Value} (ho : o.op = .alloc t) (hz0 : (C.P.info? t).bind (·.zero) = some z) :
    Eff C R O Γ o Nat (fun b => .pointer (some ⟨b, 0, none⟩)) (fun b => (b, .cells z.cells t (0, 0)) :: O) (fun b => C.w0.heap.size ≤ b ∧ b ∉ O.map (·.1)) := by
  refine Eff.of_run fun a w hs hp => ⟨w.heap.size, w.alloc (.cells z.cells t (0, 0)), ⟨hp.ext.size, hp.fresh (Nat.le_refl _)⟩, ?_, hp.alloc _⟩
  obtain ⟨inf, hi, hz⟩ := Option.bind_eq_some_iff.1 hz0
  simp [execOp, ho, Instr.alloc, zeroValue, typeInfo, program, Sem.run, hi, hz, newVar, newRow, newObj]

theorem Eff.box {t : TypeId} {x : Operand} {v : Value} (ho : o.op = .box t x) (hx : opd Γ [] x = some v) :
    Eff C R O Γ o Nat (fun b => .pointer (some ⟨b, 0, none⟩)) (fun b => (b, .cells v.cells t (0, 0)) :: O) (fun b => C.w0.heap.size ≤ b ∧ b ∉ O.map (·.1)) := by
  refine Eff.of_run fun a w hs hp => ⟨w.heap.size, w.alloc (.cells v.cells t (0, 0)), ⟨hp.ext.size, hp.fresh (Nat.le_refl _)⟩, ?_, hp.alloc _⟩
  simp [execOp, ho, Instr.box, opd_ok hs (holds_nil _) hx, newVar, newRow, newObj, Sem.run]

def one : Value → Bool
  | .agg _ | .tuple _ => false
  | _ => true

/-- A store of one cell into a block of its own. -/
theorem Eff.store1 {t : TypeId} {x y : Operand} {b off : Nat} {v : Value} (ho : o.op = .store t x y) (hx : opd Γ [] x = some (.pointer (some ⟨b, off, none⟩))) (hy : opd Γ [] y = some v) (h1 : one v = true)
    (hsz0 : (C.P.info? t).map (·.size) = some 1) (i : Nat) {cs : Array Value} {e : TypeId} (hO : O[i]? = some (b, .cells cs e (0, 0))) (hoff : off < cs.size) :
    Eff C R O Γ o Unit (fun _ => undef) (fun _ => O.set i (b, .cells (cs.setIfInBounds off v) e (0, 0))) (fun _ => True) := by
  refine Eff.of_skip fun a w hs hp => ⟨(), w.setCell ⟨b, off, none⟩ v, trivial, ?_, hp.setCell i v hO⟩
  obtain ⟨inf, hi, hsz⟩ := Option.map_eq_some_iff.1 hsz0
  have hb := hp.own _ (List.mem_of_getElem? hO)
  have hc : w.cell? ⟨b, off, none⟩ = some (cs[off]) := by rw [cell_cells hb]; exact Array.getElem?_eq_getElem hoff
  have hfz : w.frozen? ⟨b, off, none⟩ = false := by simp [World.frozen?, hb]
  have hst : (store ⟨b, off, none⟩ v).run C.P w = .ok () (w.setCell ⟨b, off, none⟩ v) := by
    unfold store
    cases v <;> simp [one] at h1 <;> simp [Sem.run, hc, hfz]
  have hv : v.cells = #[v] := by cases v <;> first | rfl | simp [one] at h1
  simp [execOp, ho, opd_ok hs (holds_nil _) hx, opd_ok hs (holds_nil _) hy, Instr.storeAt, Instr.sureAddr, storeVar, run_sizeOf' hi, hsz, hv, storeCells, add_none, hst]

/-- A slice literal. -/
theorem Eff.buildSlice {t e : TypeId} {len : Nat} {xs : List (Nat × Operand)} {parts : Array (Nat × Value)} {cells : Array Value} (ho : o.op = .buildSlice t len xs.toArray) (hx : (xs.map fun p => (opd Γ [] p.2).map fun v => (p.1, v)) = parts.toList.map some)
    (hrun : ∀ w, (Instr.buildSlice t len parts).run C.P w = .ok (.slice (some ⟨w.heap.size, 0, none⟩) len len) (w.alloc (.cells cells e (0, 0)))) :
    Eff C R O Γ o Nat (fun b => .slice (some ⟨b, 0, none⟩) len len) (fun b => (b, .cells cells e (0, 0)) :: O) (fun b => C.w0.heap.size ≤ b ∧ b ∉ O.map (·.1)) := by
  refine Eff.of_run fun a w hs hp => ⟨w.heap.size, w.alloc (.cells cells e (0, 0)), ⟨hp.ext.size, hp.fresh (Nat.le_refl _)⟩, ?_, hp.alloc _⟩
  have hm : ∀ (xs : List (Nat × Operand)) (ps : List (Nat × Value)), (xs.map fun p => (opd Γ [] p.2).map fun v => (p.1, v)) = ps.map some → xs.map (fun p => (p.1, a.eval p.2)) = ps := by
    intro xs
    induction xs with
    | nil => intro ps h; cases ps with
      | nil => rfl
      | cons _ _ => simp at h
    | cons x xs ih =>
      intro ps h
      cases ps with
      | nil => simp at h
      | cons q ps =>
        simp only [List.map_cons, List.cons.injEq] at h
        obtain ⟨h1, h2⟩ := h
        obtain ⟨v, hv, hq⟩ := Option.map_eq_some_iff.1 h1
        rw [List.map_cons, ih ps h2, opd_ok hs (holds_nil _) hv, hq]
  have := hm xs parts.toList hx
  have h2 : (xs.toArray.map fun x => match x with | (i, x) => (i, a.eval x)) = parts := by
    apply Array.ext'
    rw [← this]; simp
  simp only [execOp, ho]
  rw [show (xs.toArray.map fun x => match x with | (i, x) => (i, a.eval x)) = parts from h2]
  exact run_v (hrun w)

/-- A quiet operation, carried out here and now. -/
theorem Eff.quiet {raw : Bool} {orc : Option Value} {v : Value} {nd : (World → Prop) → List Prop} (he : ∀ S, evOp C.P S Γ [] o raw orc = some (v, nd S)) (hn : All (nd (HP C.w0 C.M R O))) (hsel : (match o.op with | .select .. => false | _ => true) = true) :
    Eff C R O Γ o Unit (fun _ => v) (fun _ => O) (fun _ => True) := by
  refine Eff.of_run fun a w hs hp => ⟨(), w, trivial, ?_, hp⟩
  exact evOp_ok hs (holds_nil _) (he _) hn.mem (fun cs b hh => by simp [hh] at hsel) w hp

end
end K
end Go.Proofs.YtoopekjbikcebaaDoor
