/- Calls of function values that hold nothing; max and min. -/
import Derived.Test.YtoopekjbikcebaaDoorK13
namespace Go.Proofs.YtoopekjbikcebaaDoor
namespace K
section
variable {C : Cx} {R O : List (Nat × Obj)} {Γ : Env} {op : Oper}

/-- A call of a function value, by the function's contract. -/
theorem Eff.callV {x : Operand} {f : FuncId} {fn : Func} {c : Code} {xs : List Operand} {tys : Array TypeId} (ho : op.op = .call ⟨.value x, xs.toArray, tys⟩) (hxv : opd Γ [] x = some (.func (.func f) #[] #[])) (hf : C.P.funcs[f]? = some fn) (hnm : (fn.name == "runtime.NumGoroutine") = false) (hb : fn.body = some c)
    {vs : List Value} (hx : opds Γ xs = some vs) {ι : Type} {V : ι → Value} {O' : ι → List (Nat × Obj)} {F : ι → Prop}
    (h : ∀ w, HP C.w0 C.M R O w → Calls C.P f vs.toArray w fun e w' => ∃ x, F x ∧ e = .returned (V x) ∧ HP C.w0 C.M R (O' x) w') : Eff C R O Γ op ι V O' F := by
  intro a w hs hp Kt Q hK
  have hargs := opds_ok hs hx
  have hv := opd_ok hs (holds_nil _) hxv
  have hrun : (execOp a.eval op).run C.P w = .ok (.enter f vs.toArray) w := by
    simp [execOp, ho, resolve, Deferred.ofValue, hv, invoke, hargs, run_callFunc hf hnm hb]
  unfold Oper.wp
  rw [hrun]
  refine (h w hp).mono ?_
  rintro e w' ⟨x, hx, rfl, hp'⟩
  exact hK x w' hx hp'

theorem Eff.callAV {x : Operand} {f : FuncId} {fn : Func} {c : Code} {xs : List Operand} {tys : Array TypeId} {vs : List Value} (v : Value) (ho : op.op = .call ⟨.value x, xs.toArray, tys⟩) (hxv : opd Γ [] x = some (.func (.func f) #[] #[])) (hf : C.P.funcs[f]? = some fn)
    (hnm : (fn.name == "runtime.NumGoroutine") = false) (hb : fn.body = some c) (hx : opds Γ xs = some vs)
    (h : ∀ w, HP C.w0 C.M R O w → Calls C.P f vs.toArray w fun e w' => e = .returned v ∧ Ext [] w w') : Eff C R O Γ op Unit (fun _ => v) (fun _ => O) (fun _ => True) :=
  Eff.callV ho hxv hf hnm hb hx fun w hp => (h w hp).mono fun _ _ hh => ⟨(), trivial, hh.1, hp.calm hh.2⟩

theorem Eff.callMV {x : Operand} {f : FuncId} {fn : Func} {c : Code} {xs : List Operand} {tys : Array TypeId} {vs : List Value} (v : Value) (i : Nat) {b : Nat} {ob : Obj} (ob' : Obj) (ho : op.op = .call ⟨.value x, xs.toArray, tys⟩) (hxv : opd Γ [] x = some (.func (.func f) #[] #[])) (hf : C.P.funcs[f]? = some fn)
    (hnm : (fn.name == "runtime.NumGoroutine") = false) (hb : fn.body = some c) (hx : opds Γ xs = some vs) (hi : O[i]? = some (b, ob))
    (h : ∀ w, HP C.w0 C.M R O w → Calls C.P f vs.toArray w fun e w' => e = .returned v ∧ Ext [b] w w' ∧ w'.heap[b]? = some ob') : Eff C R O Γ op Unit (fun _ => v) (fun _ => O.set i (b, ob')) (fun _ => True) :=
  Eff.callV ho hxv hf hnm hb hx fun w hp => (h w hp).mono fun _ _ hh => ⟨(), trivial, hh.1, hp.mut i hi hh.2.1 hh.2.2⟩

theorem Eff.maxI {x y : Operand} {tys : Array TypeId} {k : IntKind} {a b : Int} (ho : op.op = .call ⟨.builtin .max, #[x, y], tys⟩) (hx : opd Γ [] x = some (.int k a)) (hy : opd Γ [] y = some (.int k b)) : Eff C R O Γ op Unit (fun _ => .int k (if b > a then b else a)) (fun _ => O) (fun _ => True) :=
  Eff.of_run fun ac w hs hp => ⟨(), w, trivial, by
    have e1 := opd_ok hs (holds_nil _) hx
    have e2 := opd_ok hs (holds_nil _) hy
    simp [execOp, ho, resolve, invoke, builtin, Builtin.max_, Builtin.max2, e1, e2], hp⟩

theorem Eff.minI {x y : Operand} {tys : Array TypeId} {k : IntKind} {a b : Int} (ho : op.op = .call ⟨.builtin .min, #[x, y], tys⟩) (hx : opd Γ [] x = some (.int k a)) (hy : opd Γ [] y = some (.int k b)) : Eff C R O Γ op Unit (fun _ => .int k (if b < a then b else a)) (fun _ => O) (fun _ => True) :=
  Eff.of_run fun ac w hs hp => ⟨(), w, trivial, by
    have e1 := opd_ok hs (holds_nil _) hx
    have e2 := opd_ok hs (holds_nil _) hy
    simp [execOp, ho, resolve, invoke, builtin, Builtin.min_, Builtin.min2, e1, e2], hp⟩
end
end K
end Go.Proofs.YtoopekjbikcebaaDoor
