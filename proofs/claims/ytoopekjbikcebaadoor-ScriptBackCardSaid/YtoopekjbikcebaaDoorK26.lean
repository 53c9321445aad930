/- A range over a function that keeps a block of its own: its contract, item by item. -/
import Derived.Test.YtoopekjbikcebaaDoorK19
namespace Go.Proofs.YtoopekjbikcebaaDoor
namespace K
set_option linter.unusedVariables false

/-- The contract of an iterator that keeps the block tb for itself: it calls yield with the items, one by one, till it says no. -/
def IterSpecB {α : Type} (P : Program) (f : FuncId) (caps : Array Value) (tb : Nat) (ob0 : Obj) (items : List α) (val : α → Value) : Prop :=
  ∀ (l dr : Nat) (fi : FuncId) (T : Array Value) (ps : Array Tmp) (assign body : Code) (σ : Type) (A : σ → List (Nat × Obj)) (J : List α → σ → Prop) (s0 : σ) (p : α → Bool) (w : World), ps.size = 1 → J [] s0 → Has w ((tb, ob0) :: A s0) → (((tb, ob0) :: A s0).map (·.1)).Nodup →
    (∀ pre x, (∀ y ∈ pre, p y = true) → J pre x → (l, Obj.loop (rec0 fi T ps assign body dr .ready none)) ∈ A x) →
    (∀ pre x a rest, (∀ y ∈ pre, p y = true) → J pre x → items = pre ++ a :: rest → ∀ w, Has w (A x) → ((A x).map (·.1)).Nodup →
      RoundIn Fence.wide 0 P l fi ((ps.zip #[val a]).foldl (fun tmps (t, a) => tmps.setIfInBounds t a) T) assign body w fun e w' => ∃ y, J (pre ++ [a]) y ∧ e = .returned (.bool (p a)) ∧ ∃ R1, HP w ((A x).map (·.1)) R1 (A y) w') →
    Calls P f (#[.func (.yield l) #[] #[]] ++ caps) w fun e w' => ∃ y, J (vis p items) y ∧ e = .returned (.tuple #[]) ∧ ∃ R1 ob, HP w (((tb, ob0) :: A s0).map (·.1)) R1 ((tb, ob) :: A y) w'

section
variable {P : Program} {fn : Func} {post : Ending → World → Prop} {w0 : World} {M D : List Nat} {R O : List (Nat × Obj)} {Γ : Env} {ks ks' : List KI}
/-- A range over such a function: all of the own things but its block go through the rounds. -/
theorem Cfg.rangeB {g : Operand} {t : Tmp} {assign body : Code} (hk : K.nrm 99 ks = .inl (.rangeFunc g #[t] assign body) :: ks')
    {f : FuncId} {fn' : Func} {c' : Code} {caps : Array Value} (hg : opd Γ [] g = some (.func (.func f) #[] caps)) (hf : P.funcs[f]? = some fn') (hnm : (fn'.name == "runtime.NumGoroutine") = false) (hb : fn'.body = some c') (ht : Nat.blt t fn.ntmps = true)
    {α : Type} {tb : Nat} {ob0 : Obj} {items : List α} {val : α → Value} (hit : IterSpecB P f caps tb ob0 items val)
    {σ : Type} (Bo : σ → List (Nat × Obj)) (J : List α → σ → Prop) (s0 : σ) (hJ : J [] s0) (hO : O.Perm ((tb, ob0) :: Bo s0))
    (p : α → Bool) (stop : Exit) (hstop : goes stop = false)
    (round : ∀ (l : Nat) (ob1 ob2 : Obj) (w2 : World) (M2 : List Nat) pre x a rest, (∀ y ∈ pre, p y = true) → J pre x → items = pre ++ a :: rest →
      ∃ (κ : Type) (F1 : κ → Prop) (Γ1 : κ → Env) (O1 : κ → List (Nat × Obj)),
        Cfg (Cx.rnd P fn l w2 M2 fun _ _ => False) [] ((l, ob1) :: Bo x) (put Γ t [] (val a)) [.inl assign, .inr (.inr (Mid fn.ntmps w2 M2 [] F1 Γ1 fun y => (l, ob1) :: O1 y))] ∧
        ∀ y, F1 y → Cfg (Cx.rnd P fn l w2 M2 fun e w' => ∃ z, J (pre ++ [a]) z ∧ (if p a then Exit.normal else stop) = e ∧ HP w2 M2 [] ((l, ob2) :: Bo z) w') [] ((l, ob2) :: O1 y) (Γ1 y) [.inl body])
    (next : ∀ dr y, (∀ a ∈ items, p a = true) → J items y → Cfg (Cx.marks P fn post w0 M (dr :: D)) R ((dr, .deferred (some [])) :: Bo y) Γ ks')
    (nextS : ∀ dr y pre a rest, items = pre ++ a :: rest → (∀ y ∈ pre, p y = true) → p a = false → J (pre ++ [a]) y → Cfg (Cx.marks P fn post w0 M (dr :: D)) R ((dr, .deferred (some [])) :: Bo y) Γ (match pex stop with | none => ks' | some c => .inl c :: ks')) :
    Cfg (Cx.marks P fn post w0 M D) R O Γ ks := by
  refine Cfg.range (ι := σ × Bool) hk hg hf hnm hb (fun x => if x.2 then (∀ a ∈ items, p a = true) ∧ J items x.1 else ∃ pre a rest, items = pre ++ a :: rest ∧ (∀ y ∈ pre, p y = true) ∧ p a = false ∧ J (pre ++ [a]) x.1)
    (fun x => Bo x.1) (fun x => stx (if x.2 then .normal else stop)) (fun x => pex (if x.2 then .normal else stop)) (fun x => by cases x.2 <;> (try cases stop) <;> rfl) ?_ ?_
  · intro fi l dr T w1 hT hl hdr hp1
    have hq : HP w0 M R (((tb, ob0) :: (l, Obj.loop (rec0 fi T #[t] assign body dr .ready Option.none)) :: Bo s0) ++ [(dr, .deferred (some []))]) w1 := by
      refine hp1.perm ?_
      refine List.Perm.trans (List.Perm.cons _ (List.Perm.cons _ hO)) ?_
      refine List.Perm.trans (List.Perm.cons _ (List.Perm.swap _ _ _)) ?_
      refine List.Perm.trans (List.Perm.swap _ _ _) ?_
      rw [List.cons_append, List.cons_append]
      refine List.Perm.cons _ (List.Perm.cons _ ?_)
      exact (List.perm_append_comm (l₁ := [(dr, Obj.deferred (some []))]))
    refine (hit l dr fi T #[t] assign body (σ × Bool) (fun x => ((l, Obj.loop (rec0 fi T #[t] assign body dr (stx (if x.2 then .normal else stop)) (pex (if x.2 then .normal else stop)))) :: Bo x.1)) (fun pre x => J pre x.1 ∧ x.2 = pre.all p) (s0, true) p w1 rfl ⟨hJ, rfl⟩ (fun e he => hq.own e (List.mem_append_left _ he)) (nodup_left hq.dist) ?_ ?_).mono ?_
    · rintro pre ⟨x, b⟩ hpre ⟨hx, hb⟩
      have hb' : b = true := hb.trans (List.all_eq_true.2 hpre)
      subst hb'
      exact List.mem_cons_self ..
    · rintro pre ⟨x, b⟩ a rest hpre ⟨hx, hb⟩ hi w2 hh hdn
      have hb' : b = true := hb.trans (List.all_eq_true.2 hpre)
      subst hb'
      obtain ⟨κ, F1, Γ1, O1, h1, h2⟩ := round l (.loop (rec0 fi T #[t] assign body dr .ready Option.none)) (.loop (rec0 fi T #[t] assign body dr .busy Option.none)) w2 (((l, Obj.loop (rec0 fi T #[t] assign body dr .ready Option.none)) :: Bo x).map (·.1)) pre x a rest hpre hx hi
      have hs2 : St fn.ntmps [] (put Γ t [] (val a)) { tmps := ((#[t] : Array Tmp).zip #[val a]).foldl (fun tmps (t, a) => tmps.setIfInBounds t a) T, defers := [] } := by
        rw [zip1]
        exact putO_ok (d := some t) hT (fun t' h => by cases h; exact Nat.lt_of_succ_le (Nat.le_of_ble_eq_true ht))
      have hp2 := HP.ofL hh hdn (R := []) (fun e he => by cases he) (fun e he => by cases he)
      refine (roundK (O := Bo x) hs2 hp2 F1 Γ1 O1 h1 (fun z => J (pre ++ [a]) z) (fun _ => if p a then Exit.normal else stop) (fun z => Bo z) h2).mono ?_
      rintro e w3 ⟨z, hz, rfl, hp3⟩
      refine ⟨(z, p a), ⟨hz, ?_⟩, ?_, [], ?_⟩
      · have := List.all_eq_true.2 hpre
        simp [List.all_append, this]
      · cases hpa : p a with
        | true => rfl
        | false => simp [hstop]
      · exact hp3
    · rintro e w2 ⟨⟨y, b⟩, ⟨hy, hb⟩, rfl, R1, ob, hp2⟩
      refine ⟨⟨_, rfl⟩, (y, b), ?_, ?_⟩
      · rcases vis_split p items with h | ⟨pre, a, rest, hi, h1, h2⟩
        · rw [vis_all h] at hy hb
          have hb' : b = true := hb.trans (List.all_eq_true.2 h)
          subst hb'
          exact ⟨h, hy⟩
        · rw [hi, vis_stop h1 h2] at hy hb
          have hb' : b = false := by
            have e1 : b = (pre ++ [a]).all p := hb
            rw [e1, List.all_append]; simp [h2]
          subst hb'
          exact ⟨pre, a, rest, hi, h1, h2, hy⟩
      · have h9 := hq.swap hp2
        rw [List.cons_append, List.cons_append] at h9
        refine (h9.sub (.cons _ (List.Sublist.refl _))).perm ?_
        exact List.Perm.cons _ (List.perm_append_comm (l₂ := [(dr, Obj.deferred (some []))]))
  · rintro dr ⟨y, b⟩ hy
    cases b with
    | true => exact next dr y hy.1 hy.2
    | false =>
      obtain ⟨pre, a, rest, hi, h1, h2, h3⟩ := hy
      exact nextS dr y pre a rest hi h1 h2 h3
end
end K
end Go.Proofs.YtoopekjbikcebaaDoor
