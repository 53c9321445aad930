/- A call's configuration and its rules: code that is left, known slots, known memory. -/
import Derived.Test.YtoopekjbikcebaaDoorK5
import Derived.Deep.LoopGhost
import Derived.Sort.LoopGhostIn
import Derived.RangeFuncIn
import Derived.OrdersIn
import Derived.TacticsIn
import Derived.RangeFuncLeaves
namespace Go.Proofs.YtoopekjbikcebaaDoor
namespace K

abbrev KI := Code ⊕ Nat ⊕ (Act → World → Prop)

def aft (P : Program) (ro : Option Nat) (Q : Exit → Act → World → Prop) : List KI → Exit → Act → World → Prop
  | [], e, a, w => Q e a w
  | .inl c :: ks, e, a, w => match e with
    | .normal => c.wpIn (fen ro) 0 P (aft P ro Q ks) a w
    | e => aft P ro Q ks e a w
  | .inr (.inl id) :: ks, e, a, w => match e with
    | .exit j => if j = id then aft P ro Q ks .normal a w else aft P ro Q ks (.exit j) a w
    | e => aft P ro Q ks e a w
  | .inr (.inr I) :: ks, e, a, w => match e with
    | .normal => I a w
    | e => aft P ro Q ks e a w

def popTo (id : Nat) : List KI → Option (List KI)
  | [] => none
  | .inr (.inl j) :: ks => bif Nat.beq j id then some ks else popTo id ks
  | .inl _ :: ks => popTo id ks
  | .inr (.inr _) :: ks => popTo id ks

def nrm : Nat → List KI → List KI
  | 0, ks => ks
  | f + 1, ks => match ks with
    | .inl (.seq x y) :: ks => nrm f (.inl x :: .inl y :: ks)
    | .inl (.block id c) :: ks => nrm f (.inl c :: .inr (.inl id) :: ks)
    | .inl .skip :: ks => nrm f ks
    | .inl (.label _) :: ks => nrm f ks
    | .inr (.inl _) :: ks => nrm f ks
    | .inl (.exit id) :: ks => match popTo id ks with
      | some ks' => nrm f ks'
      | none => .inl (.exit id) :: ks
    | ks => ks

section
variable {P : Program} {ro : Option Nat} {Q : Exit → Act → World → Prop} {a : Act} {w : World}

theorem aft_code (y : Code) (ks : List KI) : aft P ro Q (.inl y :: ks) = Exit.then (y.wpIn (fen ro) 0 P (aft P ro Q ks)) (aft P ro Q ks) := by
  funext e a w
  cases e <;> rfl

theorem aft_block (id : Nat) (ks : List KI) : aft P ro Q (.inr (.inl id) :: ks) = Exit.inBlock id (aft P ro Q ks) := by
  funext e a w
  cases e <;> rfl

theorem aft_inv (I : Act → World → Prop) (ks : List KI) : aft P ro Q (.inr (.inr I) :: ks) = Exit.then I (aft P ro Q ks) := by
  funext e a w
  cases e <;> rfl

theorem popTo_ok {id : Nat} : ∀ {ks ks' : List KI}, popTo id ks = some ks' → aft P ro Q ks' .normal a w → aft P ro Q ks (.exit id) a w
  | [], _, h, _ => by cases h
  | .inr (.inl j) :: ks, ks', h, h' => by
    simp only [popTo] at h
    cases hb : Nat.beq j id with
    | true =>
      simp only [hb, cond_true, Option.some.injEq] at h
      subst h
      rw [beq_iff.1 hb]
      show (if id = id then _ else _)
      rw [if_pos rfl]; exact h'
    | false =>
      simp only [hb, cond_false] at h
      have hne : ¬ id = j := fun e => by
        have := beq_iff.2 e.symm
        rw [hb] at this; cases this
      show (if id = j then _ else _)
      rw [if_neg hne]; exact popTo_ok h h'
  | .inl _ :: ks, ks', h, h' => popTo_ok (ks := ks) h h'
  | .inr (.inr _) :: ks, ks', h, h' => popTo_ok (ks := ks) h h'

theorem nrm_ok : ∀ (f : Nat) {ks : List KI}, aft P ro Q (nrm f ks) .normal a w → aft P ro Q ks .normal a w
  | 0, _, h => h
  | f + 1, ks, h => by
    unfold nrm at h
    split at h
    · rename_i x y ks
      have := nrm_ok f h
      show Code.wpIn (fen ro) 0 P (Code.seq x y) (aft P ro Q ks) a w
      refine wpIn_seq ?_
      rw [← aft_code]; exact this
    · rename_i id c ks
      have := nrm_ok f h
      show Code.wpIn (fen ro) 0 P (Code.block id c) (aft P ro Q ks) a w
      refine wpIn_block ?_
      rw [← aft_block]; exact this
    · exact wpIn_skip (nrm_ok f h)
    · exact wpIn_label (nrm_ok f h)
    · rename_i ks
      exact nrm_ok (ks := ks) f h
    · rename_i id ks
      split at h
      · rename_i ks' hp
        exact wpIn_exit (popTo_ok hp (nrm_ok f h))
      · exact h
    · exact h

theorem aft_ret : ∀ (ks : List KI), Q .ret a w → aft P ro Q ks .ret a w
  | [], h => h
  | .inl _ :: ks, h => aft_ret ks h
  | .inr (.inl _) :: ks, h => aft_ret ks h
  | .inr (.inr _) :: ks, h => aft_ret ks h

theorem aft_panic {c : List PanicEntry} : ∀ (ks : List KI), aft P ro Q ks (.panic c) a w = Q (.panic c) a w
  | [] => rfl
  | .inl _ :: ks => aft_panic ks
  | .inr (.inl _) :: ks => aft_panic ks
  | .inr (.inr _) :: ks => aft_panic ks

theorem aft_out : ∀ (ks : List KI), aft P ro Q ks .outgrown a w = Q .outgrown a w
  | [] => rfl
  | .inl _ :: ks => aft_out ks
  | .inr (.inl _) :: ks => aft_out ks
  | .inr (.inr _) :: ks => aft_out ks

theorem rowsIn_fen {row : String} {args : Array Value} {R : Value → World → Prop} (h : Rows P row args w R) : RowsIn (fen ro) 0 P row args w R :=
  fun c cs _ => by
    obtain ⟨v, w', r, s⟩ := h c cs
    have h1 : StepsIn (Machine.fenced P Fence.wide) P (lone (Frame.ofRow P row args .normal) (c :: cs) w) (lone (c.finish v) cs w') := stepsIn_wide.2 s
    exact ⟨v, w', r, h1⟩

theorem callsIn_fen {f : FuncId} {args : Array Value} {R : Ending → World → Prop} (h : Calls P f args w R) : CallsIn (fen ro) 0 P f args w R := by
  have h1 : CallsIn Fence.wide 0 P f args w R := callsIn_wide.2 h
  exact h1

def ndf (o : Oper) : Bool := match o.op with | .defer .. => false | _ => true

theorem ndf_spec {o : Oper} (h : ndf o = true) : ∀ c, o.op ≠ .defer c := by
  intro c hc
  simp [ndf, hc] at h

theorem wpIn_of_wp {o : Oper} {next : Act → World → Prop} (hn : ndf o = true) (h : o.wp P a w next Q) : o.wpIn (fen ro) 0 P a w next Q := by
  refine ⟨fun _ _ => trivial, ?_⟩
  rw [Oper.semAt_eq _ _ _ (ndf_spec hn)]
  unfold Oper.wp at h
  generalize (execOp a.eval o).run P w = r at h ⊢
  match r, h with
  | .ok (.value v) w', h => exact h
  | .ok .skip w', h => exact h
  | .ok (.defer d) w', h => exact h
  | .ok (.enter f args) w', h => exact ⟨fun h => (by cases h), callsIn_fen h⟩
  | .ok (.row row args) w', h => exact ⟨fun h => (by cases h), rowsIn_fen h⟩
  | .ok (.round ..) w', h => exact h.elim
  | .halt (.panic v) w', h => exact h

theorem wpAnyIn_of_held {S : World → Prop} {md : Region.Mode} {ops : Array Oper} (hl : ¬ LetsOut Q) (hn : ops.all ndf = true) : ∀ (fuel : Nat) (listed : Array Bool) (a : Act) (w : World), wpAnyH P md ops Q S fuel listed a w → wpAnyIn (fen ro) 0 P md ops Q fuel listed a w
  | 0, _, _, _, h => h
  | fuel + 1, _, a, w, h => ⟨h.1, fun i hi => by
    have h2 := wpOp_mono (fun a' w' h' => wpAnyIn_of_held hl hn fuel _ a' w' h'.2) (h.2 i hi)
    unfold wpOp at h2
    unfold wpOpIn
    split at h2
    · rename_i he
      rw [he]; exact h2
    · rename_i o he
      rw [he]
      have ho : ndf o = true := by
        obtain ⟨hlt, hx⟩ := Array.getElem?_eq_some_iff.1 he
        exact Array.all_eq_true.1 hn i hlt |> fun h => hx ▸ h
      dsimp only
      split at h2
      · rename_i hw
        rw [if_pos hw]
        rcases h2 with h2 | h2
        · exact wpIn_of_wp ho h2
        · exact absurd h2.2 hl
      · rename_i hw
        rw [if_neg hw]
        exact ⟨fun _ _ => trivial, h2⟩⟩

end

/-- What a walk is about: the program, the function, what the call is to come to, the world at its beginning, the blocks that may change; in a round of the loop ro or in none; the marks on the act; what the code's end asks. -/
structure Cx where
  P : Program
  fn : Func
  post : Ending → World → Prop
  w0 : World
  M : List Nat
  ro : Option Nat
  D : List Deferred
  Q0 : Exit → Act → World → Prop
  po : PanicOk Q0
  lo : ¬ LetsOut Q0
  rt : D = [] → ∀ a w v, a.defers = D → (Go.results fn a.tmps).run P w = .ok v w → post (.returned v) w → Q0 .ret a w ∧ Q0 .normal a w

def noOut (post : Ending → World → Prop) (e : Ending) (w : World) : Prop := e ≠ .outgrown ∧ post e w

/-- A plain call. -/
def Cx.plain (P : Program) (fn : Func) (post : Ending → World → Prop) (w0 : World) (M : List Nat) : Cx where
  P := P
  fn := fn
  post := post
  w0 := w0
  M := M
  ro := none
  D := []
  Q0 := bodyPost P fn (noOut post)
  po := fun c a w d v h => by cases d <;> exact h
  lo := fun ⟨a, w, h⟩ => h.1 rfl
  rt := fun _ a w v hd hr hp => ⟨⟨hd, v, hr, by simp, hp⟩, ⟨hd, v, hr, by simp, hp⟩⟩

abbrev Cx.Q (C : Cx) (ks : List KI) : Exit → Act → World → Prop := aft C.P C.ro C.Q0 ks

def Cfg (C : Cx) (R O : List (Nat × Obj)) (Γ : Env) (ks : List KI) : Prop :=
  ∀ a w, St C.fn.ntmps C.D Γ a → HP C.w0 C.M R O w → C.Q ks .normal a w

/-- Inside a region that keeps to the text's order. -/
def CfgL (C : Cx) (R O : List (Nat × Obj)) (Γ : Env) (ops : Array Oper) (rest : List Oper) (ks : List KI) : Prop :=
  ∀ a w, St C.fn.ntmps C.D Γ a → HP C.w0 C.M R O w → wpListIn (fen C.ro) 0 C.P ops (C.Q ks) rest a w

/-- Inside a region that draws its order: Os is memory that nothing in it changes. -/
def CfgA (C : Cx) (R Os O : List (Nat × Obj)) (Γ : Env) (ops : Array Oper) (fuel : Nat) (l : Array Bool) (ks : List KI) : Prop :=
  ∀ a w, St C.fn.ntmps C.D Γ a → HP C.w0 C.M R O w → wpAnyH C.P .any ops (C.Q ks) (HP C.w0 C.M R Os) fuel l a w

theorem panicOk (C : Cx) (ks : List KI) : PanicOk (C.Q ks) := by
  intro c a w d v h
  rw [Cx.Q, aft_panic] at *
  exact C.po c a w d v h

theorem notOut (C : Cx) (ks : List KI) : ¬ LetsOut (C.Q ks) := fun ⟨a, w, h⟩ => C.lo ⟨a, w, by rw [Cx.Q, aft_out] at h; exact h⟩

def evR (C : Cx) (S : World → Prop) (Γ : Env) (ops : Array Oper) (l : List Oper) (ds : List Dir) (kp : Option (List Nat)) : Option (Env × List Prop) :=
  bif Region.noSelect ops then
    match evOps C.P S C.fn.ntmps ops l ds Γ with
    | some r => some (match kp with | some ks => keep ks r.1 | none => r.1, r.2)
    | none => none
  else none

section
variable {C : Cx} {R O : List (Nat × Obj)} {Γ Γ' : Env} {ks ks' : List KI} {nd : (World → Prop) → List Prop} {ops : Array Oper}

theorem evR_some {S : World → Prop} {l : List Oper} {ds : List Dir} {kp : Option (List Nat)} {nd : List Prop} (h : evR C S Γ ops l ds kp = some (Γ', nd)) :
    Region.noSelect ops = true ∧ ∃ Γ2, evOps C.P S C.fn.ntmps ops l ds Γ = some (Γ2, nd) ∧ ∀ n D a, St n D Γ2 a → St n D Γ' a := by
  unfold evR at h
  cases hb : Region.noSelect ops with
  | false => simp [hb] at h
  | true =>
    simp only [hb, cond_true] at h
    split at h
    · rename_i r hr
      simp only [Option.some.injEq, Prod.mk.injEq] at h
      obtain ⟨h1, h2⟩ := h
      refine ⟨rfl, r.1, by rw [hr, ← h2], fun n D a hs => ?_⟩
      rw [← h1]
      cases kp with
      | none => exact hs
      | some kp => exact keep_ok kp hs
    · cases h

theorem Cfg.nrm (h : Cfg C R O Γ (K.nrm 99 ks)) : Cfg C R O Γ ks := fun a w hs hp => nrm_ok 99 (h a w hs hp)

theorem sel_all (h : Region.noSelect ops = true) {l : List Oper} (hl : ∀ o ∈ l, o ∈ ops.toList) : ∀ o ∈ l, ∀ cs b, o.op ≠ .select cs b := by
  intro o ho cs b
  obtain ⟨j, hj⟩ := List.mem_iff_getElem?.1 (hl o ho)
  exact Region.noSelect_spec h j o cs b (by simpa using hj)

/-- A region of quiet operations in the text's order. -/
theorem Cfg.reg {id : Nat} (hk : K.nrm 99 ks = .inl (.region id ops false) :: ks') (kp : List Nat) (ds : List Dir) (he : ∀ S, evR C S Γ ops ops.toList ds (some kp) = some (Γ', nd S)) (hn : All (nd (HP C.w0 C.M R O)))
    (h : Cfg C R O Γ' ks') : Cfg C R O Γ ks := by
  refine Cfg.nrm ?_
  rw [hk]
  intro a w hs hp
  obtain ⟨hsel, Γ2, he2, hw⟩ := evR_some (he _)
  refine wpIn_region_list ?_
  have := wplIn_pure (ro := C.ro) (Q := C.Q ks') (l2 := []) (w := w) ops.toList ds Γ a (sel_all hsel (fun _ h => h)) hs he2 hn.mem hp (fun a' hs' => h a' w (hw _ _ _ hs') hp)
  simpa using this

/-- A region of quiet operations that draws its order. -/
theorem Cfg.regD {id : Nat} (hk : K.nrm 99 ks = .inl (.region id ops true) :: ks') (hm : C.P.follows .mixedOrders = true) (kp : List Nat) (ds : List Dir)
    (ht0 : ((takes .any ops (Array.replicate ops.size false) (List.range ops.size)).map fun l => (Region.ready .any ops l).isEmpty) = some true) (ho0 : (opsAt ops (List.range ops.size)).isSome = true)
    (he : ∀ S, evR C S Γ ops ((opsAt ops (List.range ops.size)).getD []) ds (some kp) = some (Γ', nd S)) (hn : All (nd (HP C.w0 C.M R O))) (h : Cfg C R O Γ' ks') (hnd : ops.all ndf = true := by kernel_rfl) : Cfg C R O Γ ks := by
  refine Cfg.nrm ?_
  rw [hk]
  intro a w hs hp
  obtain ⟨hsel, Γ2, he2, hw⟩ := evR_some (he _)
  obtain ⟨l', ht, hr0⟩ := Option.map_eq_some_iff.1 ht0
  have hr : Region.ready .any ops l' = [] := List.isEmpty_iff.1 hr0
  obtain ⟨os, ho⟩ := Option.isSome_iff_exists.1 ho0
  rw [ho, Option.getD_some] at he2
  refine wpIn_region_any hm (wpAnyIn_of_held (S := HP C.w0 C.M R O) (notOut C ks') hnd _ _ _ _ ?_)
  have := any_pure (Q := C.Q ks') (w := { w with drawn := w.drawn + 1 }) (fuel := 0) hsel (panicOk C ks') (List.range ops.size) os ds _ Γ a ht ho hs he2 hn.mem hp.drew
    (fun a' hs' => wpAnyH_done hr (h a' _ (hw _ _ _ hs') hp.drew) 0)
  simpa using this

theorem Cfg.cond {c : Operand} {x y : Code} (hk : K.nrm 99 ks = .inl (.cond c x y) :: ks') {b : Bool} (hc : opd Γ [] c = some (.bool b)) (ht : b = true → Cfg C R O Γ (.inl x :: ks')) (hf : b = false → Cfg C R O Γ (.inl y :: ks')) :
    Cfg C R O Γ ks := by
  refine Cfg.nrm ?_
  rw [hk]
  intro a w hs hp
  have he := opd_ok hs (holds_nil _) hc
  exact wpIn_cond_split he (fun hb => ht hb a w hs hp) (fun hb => hf hb a w hs hp)

theorem Cfg.conv (h : Cfg C R O Γ' ks) (hΓ : ∀ n D a, St n D Γ a → St n D Γ' a) : Cfg C R O Γ ks := fun a w hs hp => h a w (hΓ _ _ a hs) hp

theorem Cfg.sub {O' : List (Nat × Obj)} (h : Cfg C R O' Γ ks) (hO : O'.Sublist O) : Cfg C R O Γ ks := fun a w hs hp => h a w hs (hp.sub hO)

def Conv (Γ : Env) : Env → Prop
  | [] => True
  | e :: Γ' => find Γ e.1 = some e.2 ∧ Conv Γ Γ'

theorem Conv.st (h : Conv Γ Γ') {n : Nat} {D : List Deferred} {a : Act} (hs : St n D Γ a) : St n D Γ' a := by
  refine hs.mono fun e he => ?_
  induction Γ' with
  | nil => cases he
  | cons x Γ' ih =>
    rcases List.mem_cons.1 he with rfl | he
    · exact find_mem h.1
    · exact ih h.2 he

def Again (C : Cx) (R : List (Nat × Obj)) {ι : Type} (Γi : ι → Env) (Oi : ι → List (Nat × Obj)) (I : ι → Prop) (μ : ι → Nat) (x : ι) (a : Act) (w : World) : Prop :=
  ∃ y, I y ∧ μ y < μ x ∧ St C.fn.ntmps C.D (Γi y) a ∧ HP C.w0 C.M R (Oi y) w

theorem Cfg.loop {c : Code} (hk : K.nrm 99 ks = .inl (.loop c) :: ks') {ι : Type} (Γi : ι → Env) (Oi : ι → List (Nat × Obj)) (I : ι → Prop) (μ : ι → Nat) (x0 : ι) (h0 : I x0) (hΓ : Conv Γ (Γi x0)) (hO : (Oi x0).Sublist O)
    (round : ∀ x, I x → Cfg C R (Oi x) (Γi x) (.inl c :: .inr (.inr (Again C R Γi Oi I μ x)) :: ks')) : Cfg C R O Γ ks := by
  refine Cfg.nrm ?_
  rw [hk]
  intro a w hs hp
  refine wpIn_loop_ghost (fun m a w => ∃ x, μ x = m ∧ I x ∧ St C.fn.ntmps C.D (Γi x) a ∧ HP C.w0 C.M R (Oi x) w) (μ x0) ⟨x0, rfl, h0, hΓ.st hs, hp.sub hO⟩ ?_
  rintro m a w ⟨x, rfl, hI, hs, hp⟩
  refine wpIn_mono (round x hI a w hs hp) ?_
  intro e a' w' hq
  have hq' := congrFun (congrFun (congrFun (aft_inv (P := C.P) (ro := C.ro) (Q := C.Q0) (Again C R Γi Oi I μ x) ks') e) a') w' ▸ hq
  clear hq
  cases e with
  | normal =>
    obtain ⟨y, h1, h2, h3, h4⟩ := hq'
    exact ⟨μ y, h2, y, rfl, h1, h3, h4⟩
  | _ => exact hq'

/-- The round's end. -/
theorem Cfg.again {ι : Type} {Γi : ι → Env} {Oi : ι → List (Nat × Obj)} {I : ι → Prop} {μ : ι → Nat} {x : ι} (hk : K.nrm 99 ks = .inr (.inr (Again C R Γi Oi I μ x)) :: ks') (y : ι) (hI : I y) (hμ : μ y < μ x)
    (hΓ : Conv Γ (Γi y)) (hO : (Oi y).Sublist O) : Cfg C R O Γ ks := by
  refine Cfg.nrm ?_
  rw [hk]
  intro a w hs hp
  exact ⟨y, hI, hμ, hΓ.st hs, hp.sub hO⟩

/-! ### Regions with operations that do something -/

def putO (Γ : Env) : Option Nat → Value → Env
  | some d, v => put Γ d [] v
  | none, _ => Γ

theorem putO_ok {n : Nat} {D : List Deferred} {a : Act} {d : Option Nat} {v : Value} (hs : St n D Γ a) (hd : ∀ t, d = some t → t < n) : St n D (putO Γ d v) (a.put d v) := by
  cases d with
  | none => exact hs
  | some t => exact put_ok hs (hd t rfl) rfl (fun _ => rfl) (fun h => absurd (holds_nil _) h)

/-- What an operation that does something comes to: one of the x with F x, the value V x, the memory O' x. -/
def Eff (C : Cx) (R O : List (Nat × Obj)) (Γ : Env) (o : Oper) (ι : Type) (V : ι → Value) (O' : ι → List (Nat × Obj)) (F : ι → Prop) : Prop :=
  ∀ a w, St C.fn.ntmps C.D Γ a → HP C.w0 C.M R O w → ∀ (Kt : Act → World → Prop) (Q : Exit → Act → World → Prop),
    (∀ x w', F x → HP C.w0 C.M R (O' x) w' → Kt (a.put o.dst (V x)) w') → o.wp C.P a w Kt Q

/-- The guard of an operation says yes: guardV = guardW. -/
def guardV (Γ : Env) (ops : Array Oper) (o : Oper) : Option Value :=
  match o.guard with
  | none => some (.bool true)
  | some (j, _) => match (ops[j]?).bind (·.dst) with
    | some tj => look Γ [] tj
    | none => none

def guardW (o : Oper) : Option Value :=
  match o.guard with
  | none => some (.bool true)
  | some (_, want) => some (.bool want)

theorem goes_wanted {n : Nat} {D : List Deferred} {a : Act} {o : Oper} (hs : St n D Γ a) (h : guardV Γ ops o = guardW o) : Region.wanted o (yielded ops a.tmps) = true := by
  unfold guardV guardW at h
  split at h
  · rename_i hg; simp [Region.wanted, hg]
  · rename_i j want hg
    split at h
    · rename_i tj hj
      exact (wanted_iff hg hj).2 (look_ok hs (holds_nil _) h)
    · cases h

def DstOk (n : Nat) (o : Oper) : Bool := match o.dst with | some t => Nat.blt t n | none => true

theorem DstOk.lt {n : Nat} {o : Oper} (h : DstOk n o = true) : ∀ t, o.dst = some t → t < n := by
  intro t ht
  simp only [DstOk, ht] at h
  exact Nat.lt_of_succ_le (Nat.le_of_ble_eq_true h)

theorem Cfg.begL {id : Nat} (hk : K.nrm 99 ks = .inl (.region id ops false) :: ks') (h : CfgL C R O Γ ops ops.toList ks') : Cfg C R O Γ ks := by
  refine Cfg.nrm ?_
  rw [hk]
  intro a w hs hp
  exact wpIn_region_list (h a w hs hp)

theorem CfgL.pure {rest : List Oper} (k : Nat) (ds : List Dir) (kp : Option (List Nat)) (hm : (rest.all fun o => match o.op with | .select .. => false | _ => true) = true)
    (he : ∀ S, evR C S Γ ops (rest.take k) ds kp = some (Γ', nd S)) (hn : All (nd (HP C.w0 C.M R O))) (h : CfgL C R O Γ' ops (rest.drop k) ks) : CfgL C R O Γ ops rest ks := by
  intro a w hs hp
  obtain ⟨hsel, Γ2, he2, hw⟩ := evR_some (he _)
  have := wplIn_pure (ro := C.ro) (Q := C.Q ks) (l2 := rest.drop k) (w := w) (rest.take k) ds Γ a (fun o ho cs b hh => by
    have := List.all_eq_true.1 hm o (List.mem_of_mem_take ho)
    simp [hh] at this) hs he2 hn.mem hp (fun a' hs' => h a' w (hw _ _ _ hs') hp)
  rwa [List.take_append_drop] at this

theorem CfgL.eff {rest rest' : List Oper} {o : Oper} (hr : rest = o :: rest') (hd : DstOk C.fn.ntmps o = true) (hg : guardV Γ ops o = guardW o) {ι : Type} {V : ι → Value} {O' : ι → List (Nat × Obj)} {F : ι → Prop} (he : Eff C R O Γ o ι V O' F)
    (h : ∀ x, F x → CfgL C R (O' x) (putO Γ o.dst (V x)) ops rest' ks) (hnd : ndf o = true := by kernel_rfl) : CfgL C R O Γ ops rest ks := by
  subst hr
  intro a w hs hp
  unfold wpListIn
  rw [if_pos (goes_wanted hs hg)]
  exact wpIn_of_wp hnd (he a w hs hp _ _ (fun x w' hx hp' => h x hx _ w' (putO_ok hs (DstOk.lt hd)) hp'))

theorem CfgL.done {rest : List Oper} (hr : rest = []) (h : Cfg C R O Γ ks) : CfgL C R O Γ ops rest ks := by
  subst hr
  intro a w hs hp
  exact h a w hs hp

theorem Cfg.begA {id : Nat} (hk : K.nrm 99 ks = .inl (.region id ops true) :: ks') (hm : C.P.follows .mixedOrders = true) (Os : List (Nat × Obj)) (h : CfgA C R Os O Γ ops ops.size (Array.replicate ops.size false) ks') (hnd : ops.all ndf = true := by kernel_rfl) : Cfg C R O Γ ks := by
  refine Cfg.nrm ?_
  rw [hk]
  intro a w hs hp
  exact wpIn_region_any hm (wpAnyIn_of_held (notOut C ks') hnd _ _ _ _ (h a _ hs hp.drew))

theorem CfgA.pure {Os : List (Nat × Obj)} {fuel : Nat} {l l' : Array Bool} (is : List Nat) (ds : List Dir) (kp : Option (List Nat)) (ht : takes .any ops l is = some l') (ho0 : (opsAt ops is).isSome = true)
    (hO : Os.Sublist O) (fuel' : Nat) (hf : fuel = fuel' + is.length)
    (he : ∀ S, evR C S Γ ops ((opsAt ops is).getD []) ds kp = some (Γ', nd S)) (hn : All (nd (HP C.w0 C.M R Os))) (h : CfgA C R Os O Γ' ops fuel' l' ks) : CfgA C R Os O Γ ops fuel l ks := by
  intro a w hs hp
  obtain ⟨hsel, Γ2, he2, hw⟩ := evR_some (he _)
  obtain ⟨os, ho⟩ := Option.isSome_iff_exists.1 ho0
  rw [ho, Option.getD_some] at he2
  subst hf
  exact any_pure (Q := C.Q ks) (w := w) hsel (panicOk C ks) is os ds l Γ a ht ho hs he2 hn.mem (hp.sub hO) (fun a' hs' => h a' w (hw _ _ _ hs') hp)

theorem CfgA.eff {Os : List (Nat × Obj)} {fuel fuel' : Nat} {l : Array Bool} (i : Nat) {o : Oper} (ho : ops[i]? = some o) (hr : Region.ready .any ops l = [i]) (hf : fuel = fuel' + 1) (hd : DstOk C.fn.ntmps o = true) (hg : guardV Γ ops o = guardW o)
    {ι : Type} {V : ι → Value} {O' : ι → List (Nat × Obj)} {F : ι → Prop} (he : Eff C R O Γ o ι V O' F) (hO : ∀ x, F x → Os.Sublist (O' x))
    (h : ∀ x, F x → CfgA C R Os (O' x) (putO Γ o.dst (V x)) ops fuel' (l.setIfInBounds i true) ks) : CfgA C R Os O Γ ops fuel l ks := by
  subst hf
  intro a w hs hp
  refine wpAnyH_all hr (by simp) ?_
  intro j hj
  simp only [List.mem_cons, List.not_mem_nil, or_false] at hj
  subst hj
  unfold wpOp
  simp only [ho, goes_wanted hs hg, if_true]
  exact .inl (he a w hs hp _ _ (fun x w' hx hp' => ⟨hp'.sub (hO x hx), h x hx _ w' (putO_ok hs (DstOk.lt hd)) hp'⟩))

theorem CfgA.done {Os : List (Nat × Obj)} {fuel : Nat} {l : Array Bool} (hr : Region.ready .any ops l = []) (h : Cfg C R O Γ ks) : CfgA C R Os O Γ ops fuel l ks := by
  intro a w hs hp
  exact wpAnyH_done hr (h a w hs hp) fuel

/-! ### The end and the beginning -/

/-- The results: slots, or variables in memory. -/
def Res (C : Cx) (R O : List (Nat × Obj)) (Γ : Env) : List ResultVar → List Value → Prop
  | [], [] => True
  | .tmp t :: rs, v :: vs => look Γ [] t = some v ∧ Res C R O Γ rs vs
  | .cell p ty :: rs, v :: vs => (∃ x, look Γ [] p = some (.pointer (some x)) ∧ ∀ w, HP C.w0 C.M R O w → (loadVar ty x).run C.P w = .ok v w) ∧ Res C R O Γ rs vs
  | _, _ => False

def resF (tm : Array Value) : ResultVar → Sem Value
  | .tmp t => pure (tm.getD t undef)
  | .cell x t => do loadVar t (← asAddr (tm.getD x undef))

theorem results_eq (fn : Func) (tm : Array Value) : Go.results fn tm = (do let vs ← fn.results.mapM (resF tm); pure (if h : vs.size = 1 then vs[0] else .tuple vs)) := by
  unfold Go.results
  congr 1

theorem Res.run {a : Act} {w : World} {n : Nat} {D : List Deferred} (hs : St n D Γ a) (hp : HP C.w0 C.M R O w) : ∀ {rs : List ResultVar} {vs : List Value}, Res C R O Γ rs vs →
    (rs.mapM (resF a.tmps)).run C.P w = .ok vs w
  | [], [], _ => by simp
  | .tmp t :: rs, v :: vs, h => by
    have h1 := look_ok hs (holds_nil _) h.1
    have ih := Res.run hs hp h.2
    simp only [List.mapM_cons, resF, Sem.run_bind, Sem.run_pure, Result.andThen_ok, h1]
    rw [ih]; rfl
  | .cell p ty :: rs, v :: vs, h => by
    obtain ⟨⟨x, hx, hv⟩, h2⟩ := h
    have h1 := look_ok hs (holds_nil _) hx
    have ih := Res.run hs hp h2
    have hA : (asAddr (.pointer (some x))).run C.P w = .ok x w := rfl
    simp only [List.mapM_cons, resF, Sem.run_bind, Sem.run_pure, Result.andThen_ok, h1, hA, hv w hp]
    rw [ih]; rfl
  | [], _ :: _, h => h.elim
  | .tmp _ :: _, [], h => h.elim
  | .cell .. :: _, [], h => h.elim

def resOf : List Value → Value
  | [v] => v
  | vs => .tuple vs.toArray

theorem Res.out {a : Act} {w : World} {n : Nat} {D : List Deferred} (hs : St n D Γ a) (hp : HP C.w0 C.M R O w) {rs : List ResultVar} {vs : List Value} (hr : C.fn.results = rs.toArray) (h : Res C R O Γ rs vs) :
    (Go.results C.fn a.tmps).run C.P w = .ok (resOf vs) w := by
  have := Res.run hs hp h
  rw [results_eq, hr, List.mapM_toArray]
  simp only [Sem.run_bind, map_eq_pure_bind, this, Result.andThen_ok, Sem.run_pure]
  match vs with
  | [] => rfl
  | [v] => rfl
  | _ :: _ :: _ => simp [resOf]

theorem Cfg.ret (hk : K.nrm 99 ks = .inl .ret :: ks') {rs : List ResultVar} (hr : C.fn.results = rs.toArray) (vs : List Value) (hv : Res C R O Γ rs vs) (hp : ∀ w, HP C.w0 C.M R O w → C.post (.returned (resOf vs)) w) (hD : C.D = [] := by rfl) : Cfg C R O Γ ks := by
  refine Cfg.nrm ?_
  rw [hk]
  intro a w hs h
  exact wpIn_ret (aft_ret ks' (C.rt hD a w _ hs.dfr (hv.out hs h hr) (hp w h)).1)

theorem Cfg.fin (hk : K.nrm 99 ks = []) {rs : List ResultVar} (hr : C.fn.results = rs.toArray) (vs : List Value) (hv : Res C R O Γ rs vs) (hp : ∀ w, HP C.w0 C.M R O w → C.post (.returned (resOf vs)) w) (hD : C.D = [] := by rfl) : Cfg C R O Γ ks := by
  refine Cfg.nrm ?_
  rw [hk]
  intro a w hs h
  exact (C.rt hD a w _ hs.dfr (hv.out hs h hr) (hp w h)).2

def argsΓ : Nat → List Value → Env
  | _, [] => []
  | i, v :: vs => (i, [], v) :: argsΓ (i + 1) vs

theorem argsΓ_mem {e : Nat × Ch × Value} : ∀ {i : Nat} {vs : List Value}, e ∈ argsΓ i vs → e.2.1 = [] ∧ i ≤ e.1 ∧ vs[e.1 - i]? = some e.2.2
  | _, [], h => by cases h
  | i, v :: vs, h => by
    rcases List.mem_cons.1 h with rfl | h
    · simp
    · obtain ⟨h1, h2, h3⟩ := argsΓ_mem h
      refine ⟨h1, by omega, ?_⟩
      rw [show e.1 - i = (e.1 - (i + 1)) + 1 by omega, List.getElem?_cons_succ]; exact h3

/-- A call is its body's configuration. -/
theorem enter {P : Program} {f : FuncId} {fn : Func} {c : Code} {vs : List Value} {w : World} {post : Ending → World → Prop} (M : List Nat) (R O : List (Nat × Obj)) (hf : P.funcs[f]? = some fn) (hb : fn.body = some c)
    (hn0 : Nat.ble vs.length fn.ntmps = true) (hp : HP w M R O w) (h : Cfg (Cx.plain P fn post w M) R O (argsΓ 0 vs) [.inl c]) : Calls P f vs.toArray w post := by
  have hn : vs.length ≤ fn.ntmps := Nat.le_of_ble_eq_true hn0
  refine (calls_of_wp (R := noOut post) hf hb ?_).mono (fun e w' he => he.2)
  refine (wpIn_wide (n := 0)).1 ?_
  refine h _ w ⟨by show _ = fn.ntmps; simp; omega, rfl, ?_⟩ hp
  intro e he
  obtain ⟨h1, _, h3⟩ := argsΓ_mem he
  rw [h1]
  refine ⟨fun _ => ?_, fun hh => absurd (holds_nil _) hh⟩
  have hlt : e.1 < vs.length := by
    rcases Nat.lt_or_ge e.1 vs.length with hh | hh
    · exact hh
    · rw [Nat.sub_zero, List.getElem?_eq_none hh] at h3; cases h3
  rw [Nat.sub_zero] at h3
  rw [Array.getD_eq_getD_getElem?, Array.getElem?_append_left (by simpa using hlt)]
  simp [h3]

theorem HP.start (w : World) : HP w [] [] [] w := ⟨Ext.refl _ _, (fun _ h => by cases h), (fun _ h => by cases h), (fun _ h => by cases h), by simp, (fun _ h => by cases h)⟩

end
end K
end Go.Proofs.YtoopekjbikcebaaDoor
