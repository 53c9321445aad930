/- A range over a function whose contract is known, item by item. -/
import Derived.Test.YtoopekjbikcebaaDoorK18
namespace Go.Proofs.YtoopekjbikcebaaDoor
namespace K
set_option linter.unusedVariables false

/-- What is visited: up to the first that is refused. -/
def vis {α : Type} (p : α → Bool) : List α → List α
  | [] => []
  | x :: l => x :: (if p x then vis p l else [])
theorem vis_all {α : Type} {p : α → Bool} : ∀ {l : List α}, (∀ x ∈ l, p x = true) → vis p l = l
  | [], _ => rfl
  | x :: l, h => by rw [vis, if_pos (h x (List.mem_cons_self ..)), vis_all (fun y hy => h y (List.mem_cons_of_mem _ hy))]
theorem vis_stop {α : Type} {p : α → Bool} : ∀ {l rest : List α} {x : α}, (∀ y ∈ l, p y = true) → p x = false → vis p (l ++ x :: rest) = l ++ [x]
  | [], rest, x, _, hx => by simp [vis, hx]
  | y :: l, rest, x, h, hx => by
    rw [List.cons_append, vis, if_pos (h y (List.mem_cons_self ..)), vis_stop (fun z hz => h z (List.mem_cons_of_mem _ hz)) hx]; rfl
theorem vis_split {α : Type} (p : α → Bool) : ∀ l : List α, (∀ x ∈ l, p x = true) ∨ ∃ pre a rest, l = pre ++ a :: rest ∧ (∀ y ∈ pre, p y = true) ∧ p a = false
  | [] => .inl (fun x h => by cases h)
  | x :: l => by
    by_cases hx : p x = true
    · rcases vis_split p l with h | ⟨pre, a, rest, rfl, h1, h2⟩
      · exact .inl (fun y hy => by rcases List.mem_cons.1 hy with rfl | hy; exact hx; exact h y hy)
      · exact .inr ⟨x :: pre, a, rest, rfl, (fun y hy => by rcases List.mem_cons.1 hy with rfl | hy; exact hx; exact h1 y hy), h2⟩
    · exact .inr ⟨[], x, l, rfl, (fun y hy => by cases hy), by simpa using hx⟩

section
variable {w0 w w' : World} {M : List Nat} {R O : List (Nat × Obj)}

/-- What a call makes of the blocks A, where it may touch some that are only read, too, which end as they were. -/
theorem HP.swapR {A A' T Rn R' : List (Nat × Obj)} (h : HP w0 M R (A ++ T) w) (hRn : ∀ e ∈ Rn, e ∈ R) (h' : HP w ((A ++ Rn).map (·.1)) R' (A' ++ Rn) w') : HP w0 M R (A' ++ T) w' := by
  have hx : Ext (A.map (·.1)) w w' := ⟨h'.ext.os, h'.ext.tape, h'.ext.output, h'.ext.size, fun k hk hn => by
    by_cases hr : k ∈ Rn.map (·.1)
    · obtain ⟨e, he, rfl⟩ := List.mem_map.1 hr
      rw [h'.own e (List.mem_append_right _ he), h.ro e (hRn e he)]
    · exact h'.ext.block k hk (fun hm => by
        rw [List.map_append] at hm
        rcases List.mem_append.1 hm with hm | hm
        · exact hn hm
        · exact hr hm)⟩
  have hd := h'.dist
  rw [List.map_append] at hd
  refine h.swap (R' := []) ⟨hx, (fun e he => by cases he), (fun e he => by cases he), (fun e he => h'.own e (List.mem_append_left _ he)), (List.nodup_append.1 hd).1, fun e he => ?_⟩
  rcases h'.mine e (List.mem_append_left _ he) with h1 | h1
  · exact .inl h1
  · rw [List.map_append] at h1
    rcases List.mem_append.1 h1 with h1 | h1
    · exact .inr h1
    · exact absurd rfl ((List.nodup_append.1 hd).2.2 e.1 (List.mem_map.2 ⟨e, he, rfl⟩) e.1 h1)

theorem HP.away (h : HP w0 M R O w) {e f : Nat × Obj} (he : e ∈ O) (hf : f ∈ R) : e.1 ≠ f.1 := by
  intro hx
  have h1 := h.rod f hf
  rcases h.mine e he with h2 | h2
  · omega
  · rw [hx] at h2; exact h1.2 h2
end

/-- An iterator's contract: it calls yield with the items, one by one, till it says no. -/
def IterSpec {α : Type} (P : Program) (f : FuncId) (caps : Array Value) (Need : List (Nat × Obj)) (items : List α) (val : α → Value) : Prop :=
  ∀ (l dr : Nat) (fi : FuncId) (T : Array Value) (ps : Array Tmp) (assign body : Code) (σ : Type) (A : σ → List (Nat × Obj)) (J : List α → σ → Prop) (s0 : σ) (p : α → Bool) (w : World), ps.size = 1 → J [] s0 → Has w (A s0) → ((A s0).map (·.1)).Nodup →
    (∀ pre x, (∀ y ∈ pre, p y = true) → J pre x → (∀ e ∈ Need, e ∈ A x) ∧ (l, Obj.loop (rec0 fi T ps assign body dr .ready none)) ∈ A x) →
    (∀ pre x a rest, (∀ y ∈ pre, p y = true) → J pre x → items = pre ++ a :: rest → ∀ w, Has w (A x) → ((A x).map (·.1)).Nodup →
      RoundIn Fence.wide 0 P l fi ((ps.zip #[val a]).foldl (fun tmps (t, a) => tmps.setIfInBounds t a) T) assign body w fun e w' => ∃ y, J (pre ++ [a]) y ∧ e = .returned (.bool (p a)) ∧ ∃ R1, HP w ((A x).map (·.1)) R1 (A y) w') →
    Calls P f (#[.func (.yield l) #[] #[]] ++ caps) w fun e w' => ∃ y, J (vis p items) y ∧ e = .returned (.tuple #[]) ∧ ∃ R1, HP w ((A s0).map (·.1)) R1 (A y) w'

/-- An iterator that has no items: it gives back, and changes nothing. -/
theorem IterSpec.none {α : Type} {P : Program} {f : FuncId} {caps : Array Value} {Need : List (Nat × Obj)} {val : α → Value} (h : ∀ (l : Nat) (w : World), Has w Need → Calls P f (#[.func (.yield l) #[] #[]] ++ caps) w fun e w' => e = .returned (.tuple #[]) ∧ Ext [] w w') :
    IterSpec P f caps Need ([] : List α) val := by
  intro l dr fi T ps assign body σ A J s0 p w _ hJ hA hd hm _
  refine (h l w (fun e he => hA e ((hm [] s0 (fun y hy => by cases hy) hJ).1 e he))).mono ?_
  rintro e w' ⟨rfl, hx⟩
  exact ⟨s0, hJ, rfl, [], (HP.ofL hA hd (fun e he => by cases he) (fun e he => by cases he)).calm hx⟩

theorem zip1 (t : Nat) (v : Value) (T : Array Value) : ((#[t] : Array Tmp).zip #[v]).foldl (fun tmps (t, a) => tmps.setIfInBounds t a) T = T.setIfInBounds t v := by simp

section
variable {P : Program} {fn : Func} {post : Ending → World → Prop} {w0 : World} {M D : List Nat} {R O : List (Nat × Obj)} {Γ : Env} {ks ks' : List KI}

/-- A range over a function whose contract is known: of the own things Bo s0 the rounds make others; the things Rn are only read. -/
theorem Cfg.rangeI {g : Operand} {t : Tmp} {assign body : Code} (hk : K.nrm 99 ks = .inl (.rangeFunc g #[t] assign body) :: ks')
    {f : FuncId} {fn' : Func} {c' : Code} {caps : Array Value} (hg : opd Γ [] g = some (.func (.func f) #[] caps)) (hf : P.funcs[f]? = some fn') (hnm : (fn'.name == "runtime.NumGoroutine") = false) (hb : fn'.body = some c') (ht : Nat.blt t fn.ntmps = true)
    {α : Type} {Need : List (Nat × Obj)} {items : List α} {val : α → Value} (hit : IterSpec P f caps Need items val)
    {σ : Type} (Bo : σ → List (Nat × Obj)) (J : List α → σ → Prop) (s0 : σ) (hJ : J [] s0) (Rn T0 : List (Nat × Obj)) (hO : O.Perm (Bo s0 ++ T0)) (hRn : ∀ e ∈ Rn, e ∈ R) (hRd : (∀ w, HP w0 M R O w → (Rn.map (·.1)).Nodup))
    (p : α → Bool) (hneed : ∀ pre x, (∀ y ∈ pre, p y = true) → J pre x → ∀ e ∈ Need, e ∈ Bo x ++ Rn) (stop : Exit) (hstop : goes stop = false)
    (round : ∀ (l : Nat) (ob1 ob2 : Obj) (w2 : World) (M2 : List Nat) pre x a rest, (∀ y ∈ pre, p y = true) → J pre x → items = pre ++ a :: rest →
      ∃ (κ : Type) (F1 : κ → Prop) (Γ1 : κ → Env) (O1 : κ → List (Nat × Obj)),
        Cfg (Cx.rnd P fn l w2 M2 fun _ _ => False) [] ((l, ob1) :: (Bo x ++ Rn)) (put Γ t [] (val a)) [.inl assign, .inr (.inr (Mid fn.ntmps w2 M2 [] F1 Γ1 fun y => (l, ob1) :: O1 y))] ∧
        ∀ y, F1 y → Cfg (Cx.rnd P fn l w2 M2 fun e w' => ∃ z, J (pre ++ [a]) z ∧ (if p a then Exit.normal else stop) = e ∧ HP w2 M2 [] ((l, ob2) :: (Bo z ++ Rn)) w') [] ((l, ob2) :: O1 y) (Γ1 y) [.inl body])
    (next : ∀ dr y, (∀ a ∈ items, p a = true) → J items y → Cfg (Cx.marks P fn post w0 M (dr :: D)) R ((dr, .deferred (some [])) :: (Bo y ++ T0)) Γ ks')
    (nextS : ∀ dr y pre a rest, items = pre ++ a :: rest → (∀ y ∈ pre, p y = true) → p a = false → J (pre ++ [a]) y → Cfg (Cx.marks P fn post w0 M (dr :: D)) R ((dr, .deferred (some [])) :: (Bo y ++ T0)) Γ (match pex stop with | none => ks' | some c => .inl c :: ks')) :
    Cfg (Cx.marks P fn post w0 M D) R O Γ ks := by
  refine Cfg.range (ι := σ × Bool) hk hg hf hnm hb (fun x => if x.2 then (∀ a ∈ items, p a = true) ∧ J items x.1 else ∃ pre a rest, items = pre ++ a :: rest ∧ (∀ y ∈ pre, p y = true) ∧ p a = false ∧ J (pre ++ [a]) x.1)
    (fun x => Bo x.1 ++ T0) (fun x => stx (if x.2 then .normal else stop)) (fun x => pex (if x.2 then .normal else stop)) (fun x => by cases x.2 <;> (try cases stop) <;> rfl) ?_ ?_
  · intro fi l dr T w1 hT hl hdr hp1
    have hq : HP w0 M R (((l, Obj.loop (rec0 fi T #[t] assign body dr .ready Option.none)) :: Bo s0) ++ ((dr, .deferred (some [])) :: T0)) w1 := by
      refine hp1.perm ?_
      refine List.Perm.trans (List.Perm.cons _ (List.Perm.cons _ hO)) ?_
      rw [List.cons_append]
      exact List.Perm.cons _ List.perm_middle.symm
    have hhas : Has w1 (((l, Obj.loop (rec0 fi T #[t] assign body dr .ready Option.none)) :: Bo s0) ++ Rn) := fun e he => by
      rcases List.mem_append.1 he with he | he
      · exact hq.own e (List.mem_append_left _ he)
      · exact hq.ro e (hRn e he)
    have hnd : ((((l, Obj.loop (rec0 fi T #[t] assign body dr .ready Option.none)) :: Bo s0) ++ Rn).map (·.1)).Nodup := by
      rw [List.map_append]
      refine List.nodup_append.2 ⟨nodup_left hq.dist, hRd w1 (hp1.sub (.cons _ (.cons _ (List.Sublist.refl _)))), ?_⟩
      intro a ha b hb hab
      obtain ⟨e, he, rfl⟩ := List.mem_map.1 ha
      obtain ⟨e2, he2, rfl⟩ := List.mem_map.1 hb
      exact hq.away (List.mem_append_left _ he) (hRn e2 he2) hab
    refine (hit l dr fi T #[t] assign body (σ × Bool) (fun x => (((l, Obj.loop (rec0 fi T #[t] assign body dr (stx (if x.2 then .normal else stop)) (pex (if x.2 then .normal else stop)))) :: Bo x.1) ++ Rn)) (fun pre x => J pre x.1 ∧ x.2 = pre.all p) (s0, true) p w1 rfl ⟨hJ, rfl⟩ hhas hnd ?_ ?_).mono ?_
    · rintro pre ⟨x, b⟩ hpre ⟨hx, hb⟩
      have hb' : b = true := hb.trans (List.all_eq_true.2 hpre)
      subst hb'
      exact ⟨fun e he => by rw [List.cons_append]; exact List.mem_cons_of_mem _ (hneed pre x hpre hx e he), List.mem_cons_self ..⟩
    · rintro pre ⟨x, b⟩ a rest hpre ⟨hx, hb⟩ hi w2 hh hdn
      have hb' : b = true := hb.trans (List.all_eq_true.2 hpre)
      subst hb'
      obtain ⟨κ, F1, Γ1, O1, h1, h2⟩ := round l (.loop (rec0 fi T #[t] assign body dr .ready Option.none)) (.loop (rec0 fi T #[t] assign body dr .busy Option.none)) w2 (((((l, Obj.loop (rec0 fi T #[t] assign body dr .ready Option.none)) :: Bo x) ++ Rn)).map (·.1)) pre x a rest hpre hx hi
      have hs2 : St fn.ntmps [] (put Γ t [] (val a)) { tmps := ((#[t] : Array Tmp).zip #[val a]).foldl (fun tmps (t, a) => tmps.setIfInBounds t a) T, defers := [] } := by
        rw [zip1]
        exact putO_ok (d := some t) hT (fun t' h => by cases h; exact Nat.lt_of_succ_le (Nat.le_of_ble_eq_true ht))
      have hp2 := HP.ofL hh hdn (R := []) (fun e he => by cases he) (fun e he => by cases he)
      refine (roundK (O := Bo x ++ Rn) hs2 hp2 F1 Γ1 O1 h1 (fun z => J (pre ++ [a]) z) (fun _ => if p a then Exit.normal else stop) (fun z => Bo z ++ Rn) h2).mono ?_
      rintro e w3 ⟨z, hz, rfl, hp3⟩
      refine ⟨(z, p a), ⟨hz, ?_⟩, ?_, [], ?_⟩
      · have := List.all_eq_true.2 hpre
        simp [List.all_append, this]
      · cases hpa : p a with
        | true => rfl
        | false => simp [hstop]
      · exact hp3
    · rintro e w2 ⟨⟨y, b⟩, ⟨hy, hb⟩, rfl, R1, hp2⟩
      refine ⟨⟨_, rfl⟩, (y, b), ?_, ?_⟩
      · rcases vis_split p items with h | ⟨pre, a, rest, hi, h1, h2⟩
        · rw [vis_all h] at hy hb
          have hb' : b = true := hb.trans (List.all_eq_true.2 h)
          subst hb'
          exact ⟨h, hy⟩
        · rw [hi, vis_stop h1 h2] at hy hb
          have hb' : b = false := by
            have e1 : b = (pre ++ [a]).all p := hb
            rw [e1, List.all_append]; simp [h2]
          subst hb'
          exact ⟨pre, a, rest, hi, h1, h2, hy⟩
      · refine (hq.swapR hRn hp2).perm ?_
        rw [List.cons_append]
        exact List.Perm.cons _ List.perm_middle
  · rintro dr ⟨y, b⟩ hy
    cases b with
    | true => exact next dr y hy.1 hy.2
    | false =>
      obtain ⟨pre, a, rest, hi, h1, h2, h3⟩ := hy
      exact nextS dr y pre a rest hi h1 h2 h3
end
section
variable {P : Program} {fn : Func} {post : Ending → World → Prop} {w0 : World} {M D : List Nat} {R O : List (Nat × Obj)} {Γ : Env} {ks ks' : List KI}
/-- The same, where all of the own things go through the rounds. -/
theorem Cfg.rangeJ {g : Operand} {t : Tmp} {assign body : Code} (hk : K.nrm 99 ks = .inl (.rangeFunc g #[t] assign body) :: ks')
    {f : FuncId} {fn' : Func} {c' : Code} {caps : Array Value} (hg : opd Γ [] g = some (.func (.func f) #[] caps)) (hf : P.funcs[f]? = some fn') (hnm : (fn'.name == "runtime.NumGoroutine") = false) (hb : fn'.body = some c') (ht : Nat.blt t fn.ntmps = true)
    {α : Type} {Need : List (Nat × Obj)} {items : List α} {val : α → Value} (hit : IterSpec P f caps Need items val)
    {σ : Type} (Bo : σ → List (Nat × Obj)) (J : List α → σ → Prop) (s0 : σ) (hJ : J [] s0) (Rn : List (Nat × Obj)) (hO : O.Perm (Bo s0)) (hRn : ∀ e ∈ Rn, e ∈ R) (hRd : (∀ w, HP w0 M R O w → (Rn.map (·.1)).Nodup))
    (BR : σ → List (Nat × Obj)) (hBR : ∀ x, Bo x ++ Rn = BR x)
    (p : α → Bool) (hneed : ∀ pre x, (∀ y ∈ pre, p y = true) → J pre x → ∀ e ∈ Need, e ∈ BR x) (stop : Exit) (hstop : goes stop = false)
    (round : ∀ (l : Nat) (ob1 ob2 : Obj) (w2 : World) (M2 : List Nat) pre x a rest, (∀ y ∈ pre, p y = true) → J pre x → items = pre ++ a :: rest →
      ∃ (κ : Type) (F1 : κ → Prop) (Γ1 : κ → Env) (O1 : κ → List (Nat × Obj)),
        Cfg (Cx.rnd P fn l w2 M2 fun _ _ => False) [] ((l, ob1) :: BR x) (put Γ t [] (val a)) [.inl assign, .inr (.inr (Mid fn.ntmps w2 M2 [] F1 Γ1 fun y => (l, ob1) :: O1 y))] ∧
        ∀ y, F1 y → Cfg (Cx.rnd P fn l w2 M2 fun e w' => ∃ z, J (pre ++ [a]) z ∧ (if p a then Exit.normal else stop) = e ∧ HP w2 M2 [] ((l, ob2) :: BR z) w') [] ((l, ob2) :: O1 y) (Γ1 y) [.inl body])
    (next : ∀ dr y, (∀ a ∈ items, p a = true) → J items y → Cfg (Cx.marks P fn post w0 M (dr :: D)) R ((dr, .deferred (some [])) :: Bo y) Γ ks')
    (nextS : ∀ dr y pre a rest, items = pre ++ a :: rest → (∀ y ∈ pre, p y = true) → p a = false → J (pre ++ [a]) y → Cfg (Cx.marks P fn post w0 M (dr :: D)) R ((dr, .deferred (some [])) :: Bo y) Γ (match pex stop with | none => ks' | some c => .inl c :: ks')) :
    Cfg (Cx.marks P fn post w0 M D) R O Γ ks := by
  refine Cfg.rangeI hk hg hf hnm hb ht hit Bo J s0 hJ Rn [] (by rw [List.append_nil]; exact hO) hRn hRd p (fun pre x h1 h2 e he => by rw [hBR]; exact hneed pre x h1 h2 e he) stop hstop ?_ ?_ ?_
  · intro l ob1 ob2 w2 M2 pre x a rest h1 h2 h3
    simp only [hBR]
    exact round l ob1 ob2 w2 M2 pre x a rest h1 h2 h3
  · intro dr y h1 h2
    rw [List.append_nil]; exact next dr y h1 h2
  · intro dr y pre a rest h1 h2 h3 h4
    rw [List.append_nil]; exact nextS dr y pre a rest h1 h2 h3 h4
end
theorem swap_app {α : Type} (a b : α) (l t : List α) : ((a :: b :: l) ++ t).Perm ((b :: a :: l) ++ t) := (List.Perm.swap b a l).append_right t
theorem HP.ne {w0 w : World} {M : List Nat} {R O : List (Nat × Obj)} (h : HP w0 M R O w) (i j : Nat) {a b : Nat} {oa ob : Obj} (hi : O[i]? = some (a, oa)) (hj : O[j]? = some (b, ob)) (hij : i ≠ j) : a ≠ b := fun e =>
  hij (nodup_inj h.dist (i := i) (j := j) (x := a) (by simp [hi]) (by simp [hj, e]))
/-- A variable of one cell among the own things. -/
theorem HP.ovar {P : Program} {w0 w : World} {M : List Nat} {R O : List (Nat × Obj)} (h : HP w0 M R O w) (i : Nat) {b off : Nat} {ty t : TypeId} {cs : Array Value} {fr : Nat × Nat} {v : Value} (ho : O[i]? = some (b, .cells cs t fr)) (hg : aggB P ty = false) (hc : cs[off]? = some v) :
    (loadVar ty ⟨b, off, none⟩).run P w = .ok v w := by
  have h1 : w.cell? ⟨b, off, none⟩ = some v := by rw [cell_cells (h.own _ (List.mem_of_getElem? ho))]; exact hc
  simp [loadVar, run_isAgg' hg, load, Sem.run, h1]
theorem Cfg.permO {C : Cx} {R O O' : List (Nat × Obj)} {Γ : Env} {ks : List KI} (h : O.Perm O') (hc : Cfg C R O' Γ ks) : Cfg C R O Γ ks := fun a w hs hp => hc a w hs (hp.perm h)
end K
end Go.Proofs.YtoopekjbikcebaaDoor
