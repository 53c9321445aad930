/- Small rules: a slot whose truth is known, contracts of the common shapes. -/
import Derived.Test.YtoopekjbikcebaaDoorK7
namespace Go.Proofs.YtoopekjbikcebaaDoor
namespace K

theorem notT {b : Bool} (h : (!b) = true) : b = false := by cases b <;> simp_all
theorem notF {b : Bool} (h : (!b) = false) : b = true := by cases b <;> simp_all
theorem andT1 {a b : Bool} (h : (a && b) = true) : a = true := by cases a <;> simp_all
theorem andT2 {a b : Bool} (h : (a && b) = true) : b = true := by cases a <;> simp_all
theorem andF {a b : Bool} (h : (a && b) = false) : a = false ∨ b = false := by cases a <;> simp_all
theorem orT {a b : Bool} (h : (a || b) = true) : a = true ∨ b = true := by cases a <;> simp_all
theorem orF1 {a b : Bool} (h : (a || b) = false) : a = false := by cases a <;> simp_all
theorem orF2 {a b : Bool} (h : (a || b) = false) : b = false := by cases a <;> simp_all
theorem boolV {a b : Bool} (h : (Value.bool a) = .bool b) : a = b := Value.bool.inj h

section
variable {C : Cx} {R O : List (Nat × Obj)} {Γ Γ' : Env} {ks ks' : List KI} {ops : Array Oper}

theorem Conv.mk (h : (Γ'.map fun e => find Γ e.1) = Γ'.map fun e => some e.2) : Conv Γ Γ' := by
  induction Γ' with
  | nil => trivial
  | cons e Γ' ih =>
    simp only [List.map_cons, List.cons.injEq] at h
    exact ⟨h.1, ih h.2⟩

theorem Conv.cfg (h : Conv Γ Γ') (hc : Cfg C R O Γ' ks) : Cfg C R O Γ ks := fun a w hs hp => hc a w (h.st hs) hp
theorem Conv.cfgL {rest : List Oper} (h : Conv Γ Γ') (hc : CfgL C R O Γ' ops rest ks) : CfgL C R O Γ ops rest ks := fun a w hs hp => hc a w (h.st hs) hp
theorem Conv.cfgA {Os : List (Nat × Obj)} {fuel : Nat} {l : Array Bool} (h : Conv Γ Γ') (hc : CfgA C R Os O Γ' ops fuel l ks) : CfgA C R Os O Γ ops fuel l ks := fun a w hs hp => hc a w (h.st hs) hp

theorem St.known {n : Nat} {D : List Deferred} {a : Act} (hs : St n D Γ a) (t : Nat) {b : Bool} (hf : find Γ t = some ([], .bool b)) (c : Bool) (hb : b = c) : St n D (put Γ t [] (.bool c)) a := by
  refine ⟨hs.size, hs.dfr, fun e he => ?_⟩
  rcases List.mem_cons.1 he with rfl | he
  · refine ⟨fun _ => ?_, fun h => absurd (holds_nil _) h⟩
    have := (hs.sl _ (find_mem hf)).1 (holds_nil _)
    rw [← hb]; exact this
  · exact hs.sl e (List.mem_filter.1 he).1

theorem Cfg.known (t : Nat) {b : Bool} (hf : find Γ t = some ([], .bool b)) (c : Bool) (hb : b = c) (h : Cfg C R O (put Γ t [] (.bool c)) ks) : Cfg C R O Γ ks := fun a w hs hp => h a w (hs.known t hf c hb) hp
theorem CfgL.known {rest : List Oper} (t : Nat) {b : Bool} (hf : find Γ t = some ([], .bool b)) (c : Bool) (hb : b = c) (h : CfgL C R O (put Γ t [] (.bool c)) ops rest ks) : CfgL C R O Γ ops rest ks := fun a w hs hp => h a w (hs.known t hf c hb) hp
theorem CfgA.known {Os : List (Nat × Obj)} {fuel : Nat} {l : Array Bool} (t : Nat) {b : Bool} (hf : find Γ t = some ([], .bool b)) (c : Bool) (hb : b = c) (h : CfgA C R Os O (put Γ t [] (.bool c)) ops fuel l ks) : CfgA C R Os O Γ ops fuel l ks := fun a w hs hp => h a w (hs.known t hf c hb) hp

theorem Cfg.setO {O' : List (Nat × Obj)} (h : O = O') (hc : Cfg C R O' Γ ks) : Cfg C R O Γ ks := by rw [h]; exact hc
theorem CfgL.setO {O' : List (Nat × Obj)} {rest : List Oper} (h : O = O') (hc : CfgL C R O' Γ ops rest ks) : CfgL C R O Γ ops rest ks := by rw [h]; exact hc
theorem CfgA.setO {O' Os : List (Nat × Obj)} {fuel : Nat} {l : Array Bool} (h : O = O') (hc : CfgA C R Os O' Γ ops fuel l ks) : CfgA C R Os O Γ ops fuel l ks := by rw [h]; exact hc

theorem Cfg.setG (h : Γ = Γ') (hc : Cfg C R O Γ' ks) : Cfg C R O Γ ks := by rw [h]; exact hc
theorem CfgL.setG {rest : List Oper} (h : Γ = Γ') (hc : CfgL C R O Γ' ops rest ks) : CfgL C R O Γ ops rest ks := by rw [h]; exact hc
theorem CfgA.setG {Os : List (Nat × Obj)} {fuel : Nat} {l : Array Bool} (h : Γ = Γ') (hc : CfgA C R Os O Γ' ops fuel l ks) : CfgA C R Os O Γ ops fuel l ks := by rw [h]; exact hc

/-- Number i comes up next. -/
def CfgI (C : Cx) (R Os O : List (Nat × Obj)) (Γ : Env) (ops : Array Oper) (fuel : Nat) (l : Array Bool) (i : Nat) (ks : List KI) : Prop :=
  ∀ a w, St C.fn.ntmps C.D Γ a → HP C.w0 C.M R O w → wpOp C.P ops (C.Q ks) i (fun a' w' => HP C.w0 C.M R Os w' ∧ wpAnyH C.P .any ops (C.Q ks) (HP C.w0 C.M R Os) fuel (l.setIfInBounds i true) a' w') a w

theorem CfgA.two {Os : List (Nat × Obj)} {fuel fuel' : Nat} {l : Array Bool} (i j : Nat) (hr : Region.ready .any ops l = [i, j]) (hf : fuel = fuel' + 1) (h1 : CfgI C R Os O Γ ops fuel' l i ks) (h2 : CfgI C R Os O Γ ops fuel' l j ks) : CfgA C R Os O Γ ops fuel l ks := by
  subst hf
  intro a w hs hp
  refine wpAnyH_all hr (by simp) ?_
  intro k hk
  simp only [List.mem_cons, List.not_mem_nil, or_false] at hk
  rcases hk with rfl | rfl
  · exact h1 a w hs hp
  · exact h2 a w hs hp

theorem CfgI.eff {Os : List (Nat × Obj)} {fuel : Nat} {l : Array Bool} {i : Nat} {o : Oper} (ho : ops[i]? = some o) (hd : DstOk C.fn.ntmps o = true) (hg : guardV Γ ops o = guardW o)
    {ι : Type} {V : ι → Value} {O' : ι → List (Nat × Obj)} {F : ι → Prop} (he : Eff C R O Γ o ι V O' F) (hO : ∀ x, F x → Os.Sublist (O' x))
    (h : ∀ x, F x → CfgA C R Os (O' x) (putO Γ o.dst (V x)) ops fuel (l.setIfInBounds i true) ks) : CfgI C R Os O Γ ops fuel l i ks := by
  intro a w hs hp
  unfold wpOp
  simp only [ho, goes_wanted hs hg, if_true]
  exact .inl (he a w hs hp _ _ (fun x w' hx hp' => ⟨hp'.sub (hO x hx), h x hx _ w' (putO_ok hs (DstOk.lt hd)) hp'⟩))

theorem Cfg.condT {c : Operand} {x y : Code} (hk : K.nrm 99 ks = .inl (.cond c x y) :: ks') {b : Bool} (hc : opd Γ [] c = some (.bool b)) (hb : b = true) (h : Cfg C R O Γ (.inl x :: ks')) : Cfg C R O Γ ks :=
  Cfg.cond hk hc (fun _ => h) (fun hf => by rw [hb] at hf; cases hf)

theorem Cfg.condF {c : Operand} {x y : Code} (hk : K.nrm 99 ks = .inl (.cond c x y) :: ks') {b : Bool} (hc : opd Γ [] c = some (.bool b)) (hb : b = false) (h : Cfg C R O Γ (.inl y :: ks')) : Cfg C R O Γ ks :=
  Cfg.cond hk hc (fun hf => by rw [hb] at hf; cases hf) (fun _ => h)

theorem HP.mut {w0 w w' : World} {M : List Nat} (h : HP w0 M R O w) (i : Nat) {b : Nat} {o o' : Obj} (hi : O[i]? = some (b, o)) (hx : Ext [b] w w') (hb : w'.heap[b]? = some o') : HP w0 M R (O.set i (b, o')) w' := by
  have h1 : HP w0 M R (O.eraseIdx i) w' := h.call hx _ (List.eraseIdx_sublist ..) (by
    intro k hk
    simp only [List.mem_cons, List.not_mem_nil, or_false] at hk
    subst hk
    exact List.mem_map.2 ⟨_, List.mem_of_getElem? hi, rfl⟩) (by
    intro e he hm
    simp only [List.mem_cons, List.not_mem_nil, or_false] at hm
    obtain ⟨j, hj⟩ := List.mem_iff_getElem?.1 he
    rw [List.getElem?_eraseIdx] at hj
    split at hj
    · rename_i hlt
      have := nodup_inj h.dist (i := j) (j := i) (x := b) (by simp [hj, hm]) (by simp [hi])
      omega
    · rename_i hlt
      have := nodup_inj h.dist (i := j + 1) (j := i) (x := b) (by simp [hj, hm]) (by simp [hi])
      omega)
  have hlt : i < O.length := (List.getElem?_eq_some_iff.1 hi).1
  have hmap : (O.set i (b, o')).map (·.1) = O.map (·.1) := by
    apply List.ext_getElem?
    intro j
    rw [List.map_set, List.getElem?_set]
    by_cases hij : i = j
    · subst hij; simp [hlt]; have := (List.getElem?_eq_some_iff.1 hi).2; rw [this]
    · rw [if_neg hij]
  have hmem : ∀ e ∈ O.set i (b, o'), e = (b, o') ∨ e ∈ O.eraseIdx i := by
    intro e he
    obtain ⟨j, hj⟩ := List.mem_iff_getElem?.1 he
    rw [List.getElem?_set] at hj
    by_cases hij : i = j
    · subst hij; simp [hlt] at hj; exact .inl hj.symm
    · rw [if_neg hij] at hj
      refine .inr (List.mem_iff_getElem?.2 ?_)
      by_cases hlt' : j < i
      · exact ⟨j, by rw [List.getElem?_eraseIdx, if_pos hlt']; exact hj⟩
      · exact ⟨j - 1, by rw [List.getElem?_eraseIdx, if_neg (by omega), show j - 1 + 1 = j by omega]; exact hj⟩
  refine ⟨h1.ext, h1.ro, h1.rod, fun e he => ?_, by rw [hmap]; exact h.dist, fun e he => ?_⟩
  · rcases hmem e he with rfl | he
    · exact hb
    · exact h1.own e he
  · rcases hmem e he with rfl | he
    · exact h.mine (b, o) (List.mem_of_getElem? hi)
    · exact h1.mine e he

/-- A call that gives a known value and leaves what there was as it was. -/
theorem Eff.callA {o : Oper} {f : FuncId} {fn : Func} {c : Code} {xs : List Operand} {tys : Array TypeId} {vs : List Value} (v : Value) (ho : o.op = .call ⟨.value (.func f), xs.toArray, tys⟩) (hf : C.P.funcs[f]? = some fn)
    (hnm : (fn.name == "runtime.NumGoroutine") = false) (hb : fn.body = some c) (hx : opds Γ xs = some vs)
    (h : ∀ w, HP C.w0 C.M R O w → Calls C.P f vs.toArray w fun e w' => e = .returned v ∧ Ext [] w w') : Eff C R O Γ o Unit (fun _ => v) (fun _ => O) (fun _ => True) :=
  Eff.call ho hf hnm hb hx fun w hp => (h w hp).mono fun _ _ hh => ⟨(), trivial, hh.1, hp.calm hh.2⟩

/-- A call that gives one of the values V x with F x, and leaves what there was as it was. -/
theorem Eff.callX {o : Oper} {f : FuncId} {fn : Func} {c : Code} {xs : List Operand} {tys : Array TypeId} {vs : List Value} {ι : Type} (V : ι → Value) (F : ι → Prop) (ho : o.op = .call ⟨.value (.func f), xs.toArray, tys⟩) (hf : C.P.funcs[f]? = some fn)
    (hnm : (fn.name == "runtime.NumGoroutine") = false) (hb : fn.body = some c) (hx : opds Γ xs = some vs)
    (h : ∀ w, HP C.w0 C.M R O w → Calls C.P f vs.toArray w fun e w' => (∃ x, F x ∧ e = .returned (V x)) ∧ Ext [] w w') : Eff C R O Γ o ι V (fun _ => O) F :=
  Eff.call ho hf hnm hb hx fun w hp => (h w hp).mono fun _ _ hh => by
    obtain ⟨⟨x, hF, he⟩, hE⟩ := hh
    exact ⟨x, hF, he, hp.calm hE⟩

/-- A call that gives a known value and another content to one own block. -/
theorem Eff.callM {o : Oper} {f : FuncId} {fn : Func} {c : Code} {xs : List Operand} {tys : Array TypeId} {vs : List Value} (v : Value) (i : Nat) {b : Nat} {ob : Obj} (ob' : Obj) (ho : o.op = .call ⟨.value (.func f), xs.toArray, tys⟩) (hf : C.P.funcs[f]? = some fn)
    (hnm : (fn.name == "runtime.NumGoroutine") = false) (hb : fn.body = some c) (hx : opds Γ xs = some vs) (hi : O[i]? = some (b, ob))
    (h : ∀ w, HP C.w0 C.M R O w → Calls C.P f vs.toArray w fun e w' => e = .returned v ∧ Ext [b] w w' ∧ w'.heap[b]? = some ob') : Eff C R O Γ o Unit (fun _ => v) (fun _ => O.set i (b, ob')) (fun _ => True) :=
  Eff.call ho hf hnm hb hx fun w hp => (h w hp).mono fun _ _ hh => ⟨(), trivial, hh.1, hp.mut i hi hh.2.1 hh.2.2⟩

/-- A call that gives new memory: block b, which holds ob. -/
theorem Eff.callN {o : Oper} {f : FuncId} {fn : Func} {c : Code} {xs : List Operand} {tys : Array TypeId} {vs : List Value} {ι : Type} (V : ι → Value) (B : ι → Nat) (ob : ι → Obj) (F : ι → Prop) (ho : o.op = .call ⟨.value (.func f), xs.toArray, tys⟩) (hf : C.P.funcs[f]? = some fn)
    (hnm : (fn.name == "runtime.NumGoroutine") = false) (hb : fn.body = some c) (hx : opds Γ xs = some vs)
    (h : ∀ w, HP C.w0 C.M R O w → Calls C.P f vs.toArray w fun e w' => ∃ x, F x ∧ e = .returned (V x) ∧ w.heap.size ≤ B x ∧ w'.heap[B x]? = some (ob x) ∧ Ext [] w w') :
    Eff C R O Γ o ι V (fun x => (B x, ob x) :: O) (fun x => F x ∧ C.w0.heap.size ≤ B x ∧ B x ∉ O.map (·.1)) :=
  Eff.call ho hf hnm hb hx fun w hp => (h w hp).mono fun _ _ hh => by
    obtain ⟨x, hF, he, hs, hg, hE⟩ := hh
    exact ⟨x, ⟨hF, Nat.le_trans hp.ext.size hs, hp.fresh hs⟩, he, (hp.calm hE).add hg (hp.fresh hs) (.inl (Nat.le_trans hp.ext.size hs))⟩

end
end K
end Go.Proofs.YtoopekjbikcebaaDoor
