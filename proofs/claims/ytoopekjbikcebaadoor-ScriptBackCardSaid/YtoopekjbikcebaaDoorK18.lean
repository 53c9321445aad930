/- A round of a loop over a function; the call of yield. -/
import Derived.Test.YtoopekjbikcebaaDoorK17
import Derived.Test.YtoopekjbikcebaaDoorK13
namespace Go.Proofs.YtoopekjbikcebaaDoor
namespace K
set_option linter.unusedVariables false

def Q0R (Z : Exit → World → Prop) : Exit → Act → World → Prop
  | .normal, _, w => Z .normal w
  | .ret, _, w => Z .ret w
  | .exit id, _, w => Z (.exit id) w
  | _, _, _ => False

/-- A walk in a round of the loop l. -/
def Cx.rnd (P : Program) (fn : Func) (l : Nat) (w0 : World) (M : List Nat) (Z : Exit → World → Prop) : Cx where
  P := P
  fn := fn
  post := fun _ _ => False
  w0 := w0
  M := M
  ro := some l
  D := []
  Q0 := Q0R Z
  po := fun c a w d v h => h.elim
  lo := fun ⟨a, w, h⟩ => h.elim
  rt := fun _ a w v _ _ h => h.elim

section
variable {P : Program} {fn : Func} {l : Nat} {w0 : World} {M : List Nat} {Z : Exit → World → Prop} {R O : List (Nat × Obj)} {Γ Γ' : Env} {ks ks' : List KI} {ops : Array Oper}

theorem aft_exit {ro : Option Nat} {Q : Exit → Act → World → Prop} {a : Act} {w : World} {id : Nat} : ∀ {ks : List KI}, popTo id ks = none → Q (.exit id) a w → aft P ro Q ks (.exit id) a w
  | [], _, h => h
  | .inl _ :: ks, hp, h => aft_exit (ks := ks) hp h
  | .inr (.inr _) :: ks, hp, h => aft_exit (ks := ks) hp h
  | .inr (.inl j) :: ks, hp, h => by
    simp only [popTo] at hp
    cases hb : Nat.beq j id with
    | true => simp [hb] at hp
    | false =>
      simp only [hb, cond_false] at hp
      have hne : ¬ id = j := fun e => by
        have := beq_iff.2 e.symm
        rw [hb] at this; cases this
      show (if id = j then _ else _)
      rw [if_neg hne]; exact aft_exit (ks := ks) hp h

theorem Cfg.finR (hk : K.nrm 99 ks = []) (h : ∀ w, HP w0 M R O w → Z .normal w) : Cfg (Cx.rnd P fn l w0 M Z) R O Γ ks := by
  refine Cfg.nrm ?_
  rw [hk]
  intro a w hs hp
  exact h w hp

theorem Cfg.retR (hk : K.nrm 99 ks = .inl .ret :: ks') (h : ∀ w, HP w0 M R O w → Z .ret w) : Cfg (Cx.rnd P fn l w0 M Z) R O Γ ks := by
  refine Cfg.nrm ?_
  rw [hk]
  intro a w hs hp
  exact wpIn_ret (aft_ret ks' (h w hp))

theorem Cfg.exitR {id : Nat} (hk : K.nrm 99 ks = .inl (.exit id) :: ks') (hp0 : (popTo id ks').isNone = true) (h : ∀ w, HP w0 M R O w → Z (.exit id) w) : Cfg (Cx.rnd P fn l w0 M Z) R O Γ ks := by
  refine Cfg.nrm ?_
  rw [hk]
  intro a w hs hp
  exact wpIn_exit (aft_exit (Option.isNone_iff_eq_none.1 hp0) (h w hp))

/-- The assignments are done. -/
def Mid {ι : Type} (n : Nat) (w0 : World) (M : List Nat) (R : List (Nat × Obj)) (F : ι → Prop) (Γ1 : ι → Env) (O1 : ι → List (Nat × Obj)) (a : Act) (w : World) : Prop :=
  ∃ x, F x ∧ St n [] (Γ1 x) a ∧ HP w0 M R (O1 x) w

theorem Cfg.mid {ι : Type} {F : ι → Prop} {Γ1 : ι → Env} {O1 : ι → List (Nat × Obj)} (hk : K.nrm 99 ks = .inr (.inr (Mid fn.ntmps w0 M R F Γ1 O1)) :: ks') (x : ι) (hF : F x) (hΓ : Conv Γ (Γ1 x)) (hO : (O1 x).Sublist O) :
    Cfg (Cx.rnd P fn l w0 M Z) R O Γ ks := by
  refine Cfg.nrm ?_
  rw [hk]
  intro a w hs hp
  exact ⟨x, hF, hΓ.st hs, hp.sub hO⟩

def goes : Exit → Bool | .normal => true | _ => false
def pex : Exit → Option Code | .ret => some .ret | .exit id => some (.exit id) | _ => none
def stx : Exit → LoopState | .normal => .ready | _ => .done

/-- A round: the assignments, then the body. -/
theorem roundK {fi : FuncId} {T T' : Array Value} {ps : Array Tmp} {assign body : Code} {dr : Nat} {w : World} (hs : St fn.ntmps [] Γ { tmps := T', defers := [] })
    (hp : HP w M R ((l, .loop (rec0 fi T ps assign body dr .ready none)) :: O) w)
    {ι : Type} (F1 : ι → Prop) (Γ1 : ι → Env) (O1 : ι → List (Nat × Obj))
    (h1 : Cfg (Cx.rnd P fn l w M fun _ _ => False) R ((l, .loop (rec0 fi T ps assign body dr .ready none)) :: O) Γ [.inl assign, .inr (.inr (Mid fn.ntmps w M R F1 Γ1 fun x => (l, .loop (rec0 fi T ps assign body dr .ready none)) :: O1 x))])
    {κ : Type} (F2 : κ → Prop) (ex : κ → Exit) (O2 : κ → List (Nat × Obj))
    (h2 : ∀ x, F1 x → Cfg (Cx.rnd P fn l w M fun e w' => ∃ y, F2 y ∧ ex y = e ∧ HP w M R ((l, .loop (rec0 fi T ps assign body dr .busy none)) :: O2 y) w') R ((l, .loop (rec0 fi T ps assign body dr .busy none)) :: O1 x) (Γ1 x) [.inl body]) :
    RoundIn Fence.wide 0 P l fi T' assign body w fun e w' => ∃ y, F2 y ∧ e = .returned (.bool (goes (ex y))) ∧ HP w M R ((l, .loop (rec0 fi T ps assign body dr (stx (ex y)) (pex (ex y)))) :: O2 y) w' := by
  refine roundIn_of_wpIn trivial ?_
  have hw1 := h1 _ w hs hp
  rw [Cx.Q, aft_code, aft_inv] at hw1
  have hw2 : assign.wpIn (Fence.wide.inRound l) 0 P (Exit.then (Mid fn.ntmps w M R F1 Γ1 fun x => (l, .loop (rec0 fi T ps assign body dr .ready none)) :: O1 x) (Q0R fun _ _ => False)) { tmps := T', defers := [] } w := hw1
  refine wpIn_mono hw2 ?_
  intro e a w1 hq
  cases e with
  | normal =>
    obtain ⟨x, hF, hs1, hp1⟩ := hq
    have g1 : w1.heap[l]? = some (.loop (rec0 fi T ps assign body dr .ready none)) := hp1.own _ (List.mem_cons_self ..)
    refine ⟨_, run_beginRound g1 rfl, ?_⟩
    have hp2 := hp1.set 0 (.loop (rec0 fi T ps assign body dr .busy none)) rfl (w' := w1.putObj l (.loop (rec0 fi T ps assign body dr .busy none))) rfl rfl rfl rfl
    have hw3 := h2 x hF _ _ hs1 hp2
    rw [Cx.Q, aft_code] at hw3
    have hw4 : body.wpIn (Fence.wide.inRound l) 0 P (Q0R fun e w' => ∃ y, F2 y ∧ ex y = e ∧ HP w M R ((l, .loop (rec0 fi T ps assign body dr .busy none)) :: O2 y) w') a (w1.putObj l (.loop (rec0 fi T ps assign body dr .busy none))) := by
      refine wpIn_mono (F := Fence.wide.inRound l) hw3 ?_
      intro e a w hq
      cases e <;> exact hq
    refine wpIn_mono hw4 ?_
    intro e a2 w2 hq
    have key : ∀ e, (∃ y, F2 y ∧ ex y = e ∧ HP w M R ((l, .loop (rec0 fi T ps assign body dr .busy none)) :: O2 y) w2) → (e = .normal ∨ e = .ret ∨ ∃ id, e = .exit id) →
        ∃ v w', (Instr.endRound l (pex e)).run P w2 = .ok v w' ∧ ∃ y, F2 y ∧ Ending.returned v = .returned (.bool (goes (ex y))) ∧ HP w M R ((l, .loop (rec0 fi T ps assign body dr (stx (ex y)) (pex (ex y)))) :: O2 y) w' := by
      rintro e ⟨y, hy, rfl, hp3⟩ he
      have g2 : w2.heap[l]? = some (.loop (rec0 fi T ps assign body dr .busy none)) := hp3.own _ (List.mem_cons_self ..)
      have hgo : (getObj l).run P w2 = .ok (.loop (rec0 fi T ps assign body dr .busy none)) w2 := by simp [getObj, Sem.run, g2]
      have hso : ∀ o, (setObj l o).run P w2 = .ok () { w2 with heap := w2.heap.setIfInBounds l o } := fun o => by simp [setObj, Sem.run, g2]
      have hp4 := hp3.set 0 (.loop (rec0 fi T ps assign body dr (stx (ex y)) (pex (ex y)))) rfl (w' := { w2 with heap := w2.heap.setIfInBounds l (.loop (rec0 fi T ps assign body dr (stx (ex y)) (pex (ex y)))) }) rfl rfl rfl rfl
      refine ⟨.bool (goes (ex y)), _, ?_, y, hy, rfl, hp4⟩
      have hst : (pex (ex y)).isNone = goes (ex y) ∧ (if (pex (ex y)).isNone then LoopState.ready else .done) = stx (ex y) := by
        rcases he with he | he | ⟨id, he⟩ <;> rw [he] <;> exact ⟨rfl, rfl⟩
      simp only [Instr.endRound, Instr.getLoop, Sem.run_bind, hgo, Result.andThen_ok, Sem.run_pure, hso]
      rw [hst.2, hst.1]
      rfl
    cases e with
    | normal => exact key .normal hq (.inl rfl)
    | ret => exact key .ret hq (.inr (.inl rfl))
    | exit id => exact key (.exit id) hq (.inr (.inr ⟨id, rfl⟩))
    | goto t => exact hq.elim
    | panic c => exact hq.elim
    | outgrown => exact hq.elim
  | _ => exact hq.elim
end

section
variable {C : Cx} {R O : List (Nat × Obj)} {Γ : Env} {ks : List KI} {ops : Array Oper}

/-- What an operation comes to that may ask for a round. -/
def EffI (C : Cx) (R O : List (Nat × Obj)) (Γ : Env) (o : Oper) (ι : Type) (V : ι → Value) (O' : ι → List (Nat × Obj)) (F : ι → Prop) : Prop :=
  ∀ a w, St C.fn.ntmps C.D Γ a → HP C.w0 C.M R O w → ∀ (Kt : Act → World → Prop) (Q : Exit → Act → World → Prop),
    (∀ x w', F x → HP C.w0 C.M R (O' x) w' → Kt (a.put o.dst (V x)) w') → o.wpIn (fen C.ro) 0 C.P a w Kt Q

theorem CfgL.effI {rest rest' : List Oper} {o : Oper} (hr : rest = o :: rest') (hd : DstOk C.fn.ntmps o = true) (hg : guardV Γ ops o = guardW o) {ι : Type} {V : ι → Value} {O' : ι → List (Nat × Obj)} {F : ι → Prop} (he : EffI C R O Γ o ι V O' F)
    (h : ∀ x, F x → CfgL C R (O' x) (putO Γ o.dst (V x)) ops rest' ks) : CfgL C R O Γ ops rest ks := by
  subst hr
  intro a w hs hp
  unfold wpListIn
  rw [if_pos (goes_wanted hs hg)]
  exact he a w hs hp _ _ (fun x w' hx hp' => h x hx _ w' (putO_ok hs (DstOk.lt hd)) hp')

/-- The call of yield: of the own things O = Fl ++ (A ++ T) the round makes A' x of A. -/
theorem EffI.yield {o : Oper} {g : Operand} {xs : List Operand} {tys : Array TypeId} {vs : List Value} {l : Nat} {fi : FuncId} {T : Array Value} {ps : Array Tmp} {assign body : Code} {dr : Nat} {st : LoopState} {pe : Option Code}
    {ι : Type} (V : ι → Value) (A : List (Nat × Obj)) (A' : ι → List (Nat × Obj)) (F : ι → Prop) (Fl Tl : List (Nat × Obj)) (hO : O = Fl ++ (A ++ Tl)) (ho : o.op = .call ⟨.value g, xs.toArray, tys⟩)
    (hgv : opd Γ [] g = some (.func (.yield l) #[] #[])) (hx : opds Γ xs = some vs) (hps : vs.length = ps.size) (hl : (l, Obj.loop (rec0 fi T ps assign body dr st pe)) ∈ A)
    (h : ∀ w, Has w A → (A.map (·.1)).Nodup → RoundIn Fence.wide 0 C.P l fi ((ps.zip vs.toArray).foldl (fun tmps (t, a) => tmps.setIfInBounds t a) T) assign body w fun e w' => ∃ x, F x ∧ e = .returned (V x) ∧ ∃ R1, HP w (A.map (·.1)) R1 (A' x) w') :
    EffI C R O Γ o ι V (fun x => Fl ++ (A' x ++ Tl)) F := by
  intro a w hs hp Kt Q hK
  have hp1 : HP C.w0 C.M R (A ++ (Fl ++ Tl)) w := hp.perm (by rw [hO]; exact List.perm_append_comm_assoc _ _ _)
  have hargs := opds_ok hs hx
  have hgv' : a.eval g = .func (.yield l) #[] #[] := opd_ok hs (holds_nil _) hgv
  have hlw : w.heap[l]? = some (.loop (rec0 fi T ps assign body dr st pe)) := hp1.own _ (List.mem_append_left _ hl)
  have hy := run_yield (P := C.P) (args := vs.toArray) hlw (by rw [List.size_toArray]; exact hps)
  have hrun : (execOp a.eval o).run C.P w = .ok (.round l fi ((ps.zip vs.toArray).foldl (fun tmps (t, a) => tmps.setIfInBounds t a) T) assign body) w := by
    have e : #[] ++ (xs.toArray.map a.eval) = vs.toArray := by
      rw [← hargs]; simp
    simp only [execOp, ho, resolve, hgv', Deferred.ofValue, Sem.run_bind, Sem.run_pure, Result.andThen_ok, invoke]
    rw [e]
    exact hy
  refine ⟨fun _ _ => trivial, ?_⟩
  rw [semAt_run hrun (fun d hd => by cases hd), Oper.uponIn_round]
  refine ⟨fun h => (by cases h), ?_⟩
  have h1 := (h w (fun e he => hp1.own e (List.mem_append_left _ he)) (nodup_left hp1.dist))
  have h2 : RoundIn (fen C.ro) 0 C.P l fi ((ps.zip vs.toArray).foldl (fun tmps (t, a) => tmps.setIfInBounds t a) T) assign body w _ := h1
  refine h2.mono ?_
  rintro e w' ⟨x, hF, rfl, R1, hp'⟩
  exact hK x _ hF ((hp1.swap hp').perm (List.perm_append_comm_assoc _ _ _))
end
end K
end Go.Proofs.YtoopekjbikcebaaDoor
