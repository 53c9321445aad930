/- A run of code by continuations, for the kernel: what it says is what the interpreter says. -/
import Derived.Test.YtpaekplhcjleaaaGreatDoorI22
namespace Go.Proofs.YtpaekplhcjleaaaGreatDoor
namespace I
set_option linter.unusedVariables false

/-! ### Numbers and values laid bare -/
noncomputable def fN {β : Type} (n : Nat) (c : Nat → β) : β := @Nat.rec (fun _ => β) (c 0) (fun m _ => c (Nat.succ m)) n
theorem fN_eq {β : Type} (n : Nat) (c : Nat → β) : fN n c = c n := by cases n <;> rfl
noncomputable def fI {β : Type} (n : Int) (c : Int → β) : β := @Int.rec (fun _ => β) (fun m => fN m fun m => c (.ofNat m)) (fun m => fN m fun m => c (.negSucc m)) n
theorem fI_eq {β : Type} (n : Int) (c : Int → β) : fI n c = c n := by
  cases n with
  | ofNat m => exact fN_eq m fun m => c (.ofNat m)
  | negSucc m => exact fN_eq m fun m => c (.negSucc m)
noncomputable def fB {β : Type} (b : Bool) (c : Bool → β) : β := @Bool.rec (fun _ => β) (c false) (c true) b
theorem fB_eq {β : Type} (b : Bool) (c : Bool → β) : fB b c = c b := by cases b <;> rfl

noncomputable def forceV {β : Type} (v : AV) (c : AV → β) : β :=
  match v with
  | .bool b => fB b fun b => c (.bool b)
  | .int k n => fI n fun n => c (.int k n)
  | .str n x => fN n fun n => fN x fun x => c (.str n x)
  | .ptr b o => fN b fun b => fN o fun o => c (.ptr b o)
  | .sl b o l lb sz => fN b fun b => fN o fun o => fN l fun l => fN lb fun lb => fN sz fun sz => c (.sl b o l lb sz)
  | v => c v
theorem forceV_eq {β : Type} (v : AV) (c : AV → β) : forceV v c = c v := by
  cases v <;> simp only [forceV, fN_eq, fI_eq, fB_eq]

noncomputable def optE (x : Option AV) (k : AV → Bool) : Bool := @Option.rec AV (fun _ => Bool) false (fun v => forceV v k) x
theorem optE_ok {x : Option AV} {k : AV → Bool} (h : optE x k = true) : ∃ v, x = some v ∧ k v = true := by
  cases x with
  | none => exact Bool.noConfusion (show false = true from h)
  | some v => exact ⟨v, rfl, by rw [← forceV_eq v k]; exact h⟩

theorem cond_ok {b c : Bool} (h : (bif b then c else false) = true) : b = true ∧ c = true := by
  cases b with
  | false => exact Bool.noConfusion (show false = true from h)
  | true => exact ⟨rfl, h⟩

noncomputable def boolE (v : AV) (f : Bool → Bool) : Bool := @AV.rec (fun _ => Bool) false false f (fun _ _ => false) (fun _ _ => false) false (fun _ _ => false) false (fun _ _ _ _ _ => false) false (fun _ => false) false (fun _ _ _ _ _ => false) false (fun _ _ _ => false) (fun _ _ _ => false) (fun _ _ => false) false (fun _ _ _ _ => false) (fun _ _ _ _ => false) (fun _ _ => false) false (fun _ _ _ _ _ => false) (fun _ _ => false) (fun _ => false) (fun _ _ _ _ _ _ _ _ _ => false) false v
theorem boolE_ok {v : AV} {f : Bool → Bool} (h : boolE v f = true) : ∃ x0, v = .bool x0 ∧ f x0 = true := by
  cases v <;> first | exact ⟨_,  rfl, h⟩ | exact Bool.noConfusion (show false = true from h)

noncomputable def intE (v : AV) (f : IntKind → Int → Bool) : Bool := @AV.rec (fun _ => Bool) false false (fun _ => false) f (fun _ _ => false) false (fun _ _ => false) false (fun _ _ _ _ _ => false) false (fun _ => false) false (fun _ _ _ _ _ => false) false (fun _ _ _ => false) (fun _ _ _ => false) (fun _ _ => false) false (fun _ _ _ _ => false) (fun _ _ _ _ => false) (fun _ _ => false) false (fun _ _ _ _ _ => false) (fun _ _ => false) (fun _ => false) (fun _ _ _ _ _ _ _ _ _ => false) false v
theorem intE_ok {v : AV} {f : IntKind → Int → Bool} (h : intE v f = true) : ∃ x0 x1, v = .int x0 x1 ∧ f x0 x1 = true := by
  cases v <;> first | exact ⟨_, _,  rfl, h⟩ | exact Bool.noConfusion (show false = true from h)

noncomputable def strE (v : AV) (f : Nat → Nat → Bool) : Bool := @AV.rec (fun _ => Bool) false false (fun _ => false) (fun _ _ => false) f false (fun _ _ => false) false (fun _ _ _ _ _ => false) false (fun _ => false) false (fun _ _ _ _ _ => false) false (fun _ _ _ => false) (fun _ _ _ => false) (fun _ _ => false) false (fun _ _ _ _ => false) (fun _ _ _ _ => false) (fun _ _ => false) false (fun _ _ _ _ _ => false) (fun _ _ => false) (fun _ => false) (fun _ _ _ _ _ _ _ _ _ => false) false v
theorem strE_ok {v : AV} {f : Nat → Nat → Bool} (h : strE v f = true) : ∃ x0 x1, v = .str x0 x1 ∧ f x0 x1 = true := by
  cases v <;> first | exact ⟨_, _,  rfl, h⟩ | exact Bool.noConfusion (show false = true from h)

noncomputable def ptrE (v : AV) (f : Nat → Nat → Bool) : Bool := @AV.rec (fun _ => Bool) false false (fun _ => false) (fun _ _ => false) (fun _ _ => false) false f false (fun _ _ _ _ _ => false) false (fun _ => false) false (fun _ _ _ _ _ => false) false (fun _ _ _ => false) (fun _ _ _ => false) (fun _ _ => false) false (fun _ _ _ _ => false) (fun _ _ _ _ => false) (fun _ _ => false) false (fun _ _ _ _ _ => false) (fun _ _ => false) (fun _ => false) (fun _ _ _ _ _ _ _ _ _ => false) false v
theorem ptrE_ok {v : AV} {f : Nat → Nat → Bool} (h : ptrE v f = true) : ∃ x0 x1, v = .ptr x0 x1 ∧ f x0 x1 = true := by
  cases v <;> first | exact ⟨_, _,  rfl, h⟩ | exact Bool.noConfusion (show false = true from h)

noncomputable def slE (v : AV) (f : Nat → Nat → Nat → Nat → Nat → Bool) : Bool := @AV.rec (fun _ => Bool) false false (fun _ => false) (fun _ _ => false) (fun _ _ => false) false (fun _ _ => false) false f false (fun _ => false) false (fun _ _ _ _ _ => false) false (fun _ _ _ => false) (fun _ _ _ => false) (fun _ _ => false) false (fun _ _ _ _ => false) (fun _ _ _ _ => false) (fun _ _ => false) false (fun _ _ _ _ _ => false) (fun _ _ => false) (fun _ => false) (fun _ _ _ _ _ _ _ _ _ => false) false v
theorem slE_ok {v : AV} {f : Nat → Nat → Nat → Nat → Nat → Bool} (h : slE v f = true) : ∃ x0 x1 x2 x3 x4, v = .sl x0 x1 x2 x3 x4 ∧ f x0 x1 x2 x3 x4 = true := by
  cases v <;> first | exact ⟨_, _, _, _, _,  rfl, h⟩ | exact Bool.noConfusion (show false = true from h)

noncomputable def aggE (v : AV) (f : Nat → AV → Bool) : Bool := @AV.rec (fun _ => Bool) false false (fun _ => false) (fun _ _ => false) (fun _ _ => false) false (fun _ _ => false) false (fun _ _ _ _ _ => false) false (fun _ => false) false (fun _ _ _ _ _ => false) false (fun _ _ _ => false) (fun x0 x1 _ => f x0 x1) (fun _ _ => false) false (fun _ _ _ _ => false) (fun _ _ _ _ => false) (fun _ _ => false) false (fun _ _ _ _ _ => false) (fun _ _ => false) (fun _ => false) (fun _ _ _ _ _ _ _ _ _ => false) false v
theorem aggE_ok {v : AV} {f : Nat → AV → Bool} (h : aggE v f = true) : ∃ x0 x1, v = .agg x0 x1 ∧ f x0 x1 = true := by
  cases v <;> first | exact ⟨_, _,  rfl, h⟩ | exact Bool.noConfusion (show false = true from h)

noncomputable def tupE (v : AV) (f : AV → Bool) : Bool := @AV.rec (fun _ => Bool) false false (fun _ => false) (fun _ _ => false) (fun _ _ => false) false (fun _ _ => false) false (fun _ _ _ _ _ => false) false (fun _ => false) false (fun _ _ _ _ _ => false) false (fun _ _ _ => false) (fun _ _ _ => false) (fun x0 _ => f x0) false (fun _ _ _ _ => false) (fun _ _ _ _ => false) (fun _ _ => false) false (fun _ _ _ _ _ => false) (fun _ _ => false) (fun _ => false) (fun _ _ _ _ _ _ _ _ _ => false) false v
theorem tupE_ok {v : AV} {f : AV → Bool} (h : tupE v f = true) : ∃ x0, v = .tup x0 ∧ f x0 = true := by
  cases v <;> first | exact ⟨_,  rfl, h⟩ | exact Bool.noConfusion (show false = true from h)

noncomputable def cellsE (v : AV) (f : Nat → Nat → Bool → AV → Bool) : Bool := @AV.rec (fun _ => Bool) false false (fun _ => false) (fun _ _ => false) (fun _ _ => false) false (fun _ _ => false) false (fun _ _ _ _ _ => false) false (fun _ => false) false (fun _ _ _ _ _ => false) false (fun _ _ _ => false) (fun _ _ _ => false) (fun _ _ => false) false (fun _ _ _ _ => false) (fun _ _ _ _ => false) (fun _ _ => false) false (fun x0 x1 x2 x3 _ => f x0 x1 x2 x3) (fun _ _ => false) (fun _ => false) (fun _ _ _ _ _ _ _ _ _ => false) false v
theorem cellsE_ok {v : AV} {f : Nat → Nat → Bool → AV → Bool} (h : cellsE v f = true) : ∃ x0 x1 x2 x3, v = .cells x0 x1 x2 x3 ∧ f x0 x1 x2 x3 = true := by
  cases v <;> first | exact ⟨_, _, _, _,  rfl, h⟩ | exact Bool.noConfusion (show false = true from h)

noncomputable def mapE (v : AV) (f : Nat → Bool) : Bool := @AV.rec (fun _ => Bool) false false (fun _ => false) (fun _ _ => false) (fun _ _ => false) false (fun _ _ => false) false (fun _ _ _ _ _ => false) false f false (fun _ _ _ _ _ => false) false (fun _ _ _ => false) (fun _ _ _ => false) (fun _ _ => false) false (fun _ _ _ _ => false) (fun _ _ _ _ => false) (fun _ _ => false) false (fun _ _ _ _ _ => false) (fun _ _ => false) (fun _ => false) (fun _ _ _ _ _ _ _ _ _ => false) false v
theorem mapE_ok {v : AV} {f : Nat → Bool} (h : mapE v f = true) : ∃ x0, v = .map x0 ∧ f x0 = true := by
  cases v <;> first | exact ⟨_,  rfl, h⟩ | exact Bool.noConfusion (show false = true from h)

noncomputable def lpE (v : AV) (f : Nat → List Nat → Code → Code → AV → Nat → Nat → Nat → Bool) : Bool := @AV.rec (fun _ => Bool) false false (fun _ => false) (fun _ _ => false) (fun _ _ => false) false (fun _ _ => false) false (fun _ _ _ _ _ => false) false (fun _ => false) false (fun _ _ _ _ _ => false) false (fun _ _ _ => false) (fun _ _ _ => false) (fun _ _ => false) false (fun _ _ _ _ => false) (fun _ _ _ _ => false) (fun _ _ => false) false (fun _ _ _ _ _ => false) (fun _ _ => false) (fun _ => false) (fun x0 x1 x2 x3 x4 x5 x6 x7 _ => f x0 x1 x2 x3 x4 x5 x6 x7) false v
theorem lpE_ok {v : AV} {f : Nat → List Nat → Code → Code → AV → Nat → Nat → Nat → Bool} (h : lpE v f = true) : ∃ x0 x1 x2 x3 x4 x5 x6 x7, v = .lp x0 x1 x2 x3 x4 x5 x6 x7 ∧ f x0 x1 x2 x3 x4 x5 x6 x7 = true := by
  cases v <;> first | exact ⟨_, _, _, _, _, _, _, _,  rfl, h⟩ | exact Bool.noConfusion (show false = true from h)

noncomputable def nuE (v : AV) (fn : AV → AV → Bool) (fu : AV → Bool) : Bool := @AV.rec (fun _ => Bool) false false (fun _ => false) (fun _ _ => false) (fun _ _ => false) false (fun _ _ => false) false (fun _ _ _ _ _ => false) false (fun _ => false) false (fun _ _ _ _ _ => false) false (fun _ _ _ => false) (fun _ _ _ => false) (fun _ _ => false) false (fun _ _ _ _ => false) (fun x0 x1 _ _ => fn x0 x1) (fun x0 _ => fu x0) false (fun _ _ _ _ _ => false) (fun _ _ => false) (fun _ => false) (fun _ _ _ _ _ _ _ _ _ => false) false v
theorem nuE_ok {v : AV} {fn : AV → AV → Bool} {fu : AV → Bool} (h : nuE v fn fu = true) : (∃ l r, v = .node l r ∧ fn l r = true) ∨ ∃ u, v = .uni u ∧ fu u = true := by
  cases v <;> first | exact .inl ⟨_, _, rfl, h⟩ | exact .inr ⟨_, rfl, h⟩ | exact Bool.noConfusion (show false = true from h)

noncomputable def natE (n : Int) (f : Nat → Bool) : Bool := @Int.rec (fun _ => Bool) f (fun _ => false) n
theorem natE_ok {n : Int} {f : Nat → Bool} (h : natE n f = true) : ∃ m, n = .ofNat m ∧ f m = true := by
  cases n with
  | ofNat m => exact ⟨m, rfl, h⟩
  | negSucc m => exact Bool.noConfusion (show false = true from h)

/-! ### Trees -/
noncomputable def cgetK (d : Nat) : AV → Nat → (AV → Bool) → Bool :=
  @Nat.rec (fun _ => AV → Nat → (AV → Bool) → Bool) (fun t _ k => k t)
    (fun d ih t i k => nuE t (fun l r => bif Nat.blt i (Nat.pow 2 d) then ih l i k else ih r (Nat.sub i (Nat.pow 2 d)) k) k) d
theorem cgetK_ok : ∀ {d : Nat} {t : AV} {i : Nat} {k : AV → Bool}, cgetK d t i k = true → k (cget d t i) = true
  | 0, t, i, k, h => h
  | d + 1, t, i, k, h => by
    have h' : nuE t (fun l r => bif Nat.blt i (Nat.pow 2 d) then cgetK d l i k else cgetK d r (Nat.sub i (Nat.pow 2 d)) k) k = true := h
    rcases nuE_ok h' with ⟨l, r, rfl, h1⟩ | ⟨u, rfl, h1⟩
    · simp only [cget]
      have e : Nat.pow 2 d = 2 ^ d := rfl
      rw [e] at h1
      cases hb : Nat.blt i (2 ^ d) with
      | true => rw [hb] at h1; exact cgetK_ok h1
      | false => rw [hb] at h1; exact cgetK_ok (i := i - 2 ^ d) h1
    · exact h1

noncomputable def cputK (d : Nat) : AV → Nat → AV → (AV → Bool) → Bool :=
  @Nat.rec (fun _ => AV → Nat → AV → (AV → Bool) → Bool) (fun _ _ v k => k v)
    (fun d ih t i v k => nuE t
      (fun l r => bif Nat.blt i (Nat.pow 2 d) then ih l i v (fun l' => k (.node l' r)) else ih r (Nat.sub i (Nat.pow 2 d)) v (fun r' => k (.node l r')))
      (fun u => bif Nat.blt i (Nat.pow 2 d) then ih (unid d u) i v (fun l' => k (.node l' (unid d u))) else ih (unid d u) (Nat.sub i (Nat.pow 2 d)) v (fun r' => k (.node (unid d u) r')))) d
theorem cputK_ok : ∀ {d : Nat} {t : AV} {i : Nat} {v : AV} {k : AV → Bool}, cputK d t i v k = true → k (cput d t i v) = true
  | 0, t, i, v, k, h => h
  | d + 1, t, i, v, k, h => by
    have e : Nat.pow 2 d = 2 ^ d := rfl
    rcases nuE_ok (show nuE t (fun l r => bif Nat.blt i (Nat.pow 2 d) then cputK d l i v (fun l' => k (.node l' r)) else cputK d r (Nat.sub i (Nat.pow 2 d)) v (fun r' => k (.node l r')))
      (fun u => bif Nat.blt i (Nat.pow 2 d) then cputK d (unid d u) i v (fun l' => k (.node l' (unid d u))) else cputK d (unid d u) (Nat.sub i (Nat.pow 2 d)) v (fun r' => k (.node (unid d u) r'))) = true from h) with ⟨l, r, rfl, h1⟩ | ⟨u, rfl, h1⟩
    · rw [e] at h1
      simp only [cput, kidL, kidR]
      cases hb : Nat.blt i (2 ^ d) with
      | true => rw [hb] at h1; exact cputK_ok h1
      | false => rw [hb] at h1; exact cputK_ok (i := i - 2 ^ d) h1
    · rw [e] at h1
      simp only [cput, kidL, kidR]
      cases hb : Nat.blt i (2 ^ d) with
      | true => rw [hb] at h1; exact cputK_ok h1
      | false => rw [hb] at h1; exact cputK_ok (i := i - 2 ^ d) h1

/-! ### Slots as nested rows of four -/
structure Bx where
  v : AV
structure Q (α : Type) where
  a : α
  b : α
  c : α
  d : α

def Tr : Nat → Type
  | 0 => Bx
  | 1 => Bx × Bx
  | d + 2 => Q (Tr d)

def av : (d : Nat) → Tr d → AV
  | 0, t => Bx.v t
  | 1, t => .node (Bx.v (Prod.fst t)) (Bx.v (Prod.snd t))
  | d + 2, t => .node (.node (av d (Q.a t)) (av d (Q.b t))) (.node (av d (Q.c t)) (av d (Q.d t)))

def fullT : (d : Nat) → Tr d
  | 0 => Bx.mk .undef
  | 1 => Prod.mk (Bx.mk .undef) (Bx.mk .undef)
  | d + 2 => Q.mk (fullT d) (fullT d) (fullT d) (fullT d)

noncomputable def taK : (d : Nat) → AV → (Tr d → Bool) → Bool
  | 0, t, c => c (Bx.mk t)
  | 1, t, c => nuE t (fun l r => c (Prod.mk (Bx.mk l) (Bx.mk r))) (fun _ => false)
  | d + 2, t, c => nuE t (fun l r => nuE l (fun x y => nuE r (fun z u => taK d x fun x => taK d y fun y => taK d z fun z => taK d u fun u => c (Q.mk x y z u)) (fun _ => false)) (fun _ => false)) (fun _ => false)
theorem nuE_node {t : AV} {fn : AV → AV → Bool} (h : nuE t fn (fun _ => false) = true) : ∃ l r, t = .node l r ∧ fn l r = true := by
  rcases nuE_ok h with h | ⟨u, _, h⟩
  · exact h
  · cases h
theorem taK_ok : ∀ {d : Nat} {t : AV} {c : Tr d → Bool}, taK d t c = true → ∃ u, av d u = t ∧ c u = true
  | 0, t, c, h => ⟨Bx.mk t, rfl, h⟩
  | 1, t, c, h => by
    obtain ⟨l, r, rfl, h1⟩ := nuE_node h
    exact ⟨Prod.mk (Bx.mk l) (Bx.mk r), rfl, h1⟩
  | d + 2, t, c, h => by
    obtain ⟨l, r, rfl, h1⟩ := nuE_node h
    obtain ⟨x, y, rfl, h2⟩ := nuE_node h1
    obtain ⟨z, u, rfl, h3⟩ := nuE_node h2
    obtain ⟨x', e1, h4⟩ := taK_ok h3
    obtain ⟨y', e2, h5⟩ := taK_ok h4
    obtain ⟨z', e3, h6⟩ := taK_ok h5
    obtain ⟨u', e4, h7⟩ := taK_ok h6
    exact ⟨Q.mk x' y' z' u', by show AV.node (.node (av d x') (av d y')) (.node (av d z') (av d u')) = _; rw [e1, e2, e3, e4], h7⟩

structure GC (d : Nat) where
  run : Tr d → (AV → Bool) → Bool
structure PC (d : Nat) where
  run : Tr d → AV → (Tr d → Bool) → Bool
structure LcC (d : Nat) where
  acc : Tr d → Bx

noncomputable def getA : (d : Nat) → Nat → LcC d
  | 0, _ => ⟨fun t => t⟩
  | 1, i => bif Nat.blt i 1 then ⟨fun t => @Prod.fst Bx Bx t⟩ else ⟨fun t => @Prod.snd Bx Bx t⟩
  | d + 2, i => bif Nat.blt i (2 ^ (d + 1)) then
      (bif Nat.blt i (2 ^ d) then @LcC.rec d (fun _ => LcC (d + 2)) (fun f => ⟨fun t => f (@Q.a (Tr d) t)⟩) (getA d i) else @LcC.rec d (fun _ => LcC (d + 2)) (fun f => ⟨fun t => f (@Q.b (Tr d) t)⟩) (getA d (i - 2 ^ d)))
    else (bif Nat.blt (i - 2 ^ (d + 1)) (2 ^ d) then @LcC.rec d (fun _ => LcC (d + 2)) (fun f => ⟨fun t => f (@Q.c (Tr d) t)⟩) (getA d (i - 2 ^ (d + 1))) else @LcC.rec d (fun _ => LcC (d + 2)) (fun f => ⟨fun t => f (@Q.d (Tr d) t)⟩) (getA d (i - 2 ^ (d + 1) - 2 ^ d)))
theorem getA_acc : ∀ (d i : Nat) (t : Tr d), ((getA d i).acc t).v = cget d (av d t) i
  | 0, i, t => rfl
  | 1, i, t => by
    unfold getA
    simp only [av, cget, Nat.pow_zero]
    cases Nat.blt i 1 with
    | true => rfl
    | false => rfl
  | d + 2, i, t => by
    unfold getA
    simp only [av, cget]
    cases Nat.blt i (2 ^ (d + 1)) with
    | true =>
      simp only [cond_true]
      cases Nat.blt i (2 ^ d) with
      | true => exact getA_acc d i (Q.a t)
      | false => exact getA_acc d (i - 2 ^ d) (Q.b t)
    | false =>
      simp only [cond_false]
      cases Nat.blt (i - 2 ^ (d + 1)) (2 ^ d) with
      | true => exact getA_acc d _ (Q.c t)
      | false => exact getA_acc d _ (Q.d t)

noncomputable def getC (d i : Nat) : GC d := @LcC.rec d (fun _ => GC d) (fun f => ⟨fun t k => @Bx.rec (fun _ => Bool) k (f t)⟩) (getA d i)
theorem getC_run (d i : Nat) (t : Tr d) (k : AV → Bool) : (getC d i).run t k = k (cget d (av d t) i) := by
  rw [← getA_acc]; rfl

noncomputable def putC : (d : Nat) → Nat → PC d
  | 0, _ => ⟨fun _ v k => k (Bx.mk v)⟩
  | 1, i => bif Nat.blt i 1 then ⟨fun t v k => @Prod.rec Bx Bx (fun _ => Bool) (fun l r => k (Prod.mk (Bx.mk v) r)) t⟩ else ⟨fun t v k => @Prod.rec Bx Bx (fun _ => Bool) (fun l r => k (Prod.mk l (Bx.mk v))) t⟩
  | d + 2, i => bif Nat.blt i (2 ^ (d + 1)) then
      (bif Nat.blt i (2 ^ d) then @PC.rec d (fun _ => PC (d + 2)) (fun f => ⟨fun t v k => @Q.rec (Tr d) (fun _ => Bool) (fun x y z u => f x v fun x => k (Q.mk x y z u)) t⟩) (putC d i)
       else @PC.rec d (fun _ => PC (d + 2)) (fun f => ⟨fun t v k => @Q.rec (Tr d) (fun _ => Bool) (fun x y z u => f y v fun y => k (Q.mk x y z u)) t⟩) (putC d (i - 2 ^ d)))
    else (bif Nat.blt (i - 2 ^ (d + 1)) (2 ^ d) then @PC.rec d (fun _ => PC (d + 2)) (fun f => ⟨fun t v k => @Q.rec (Tr d) (fun _ => Bool) (fun x y z u => f z v fun z => k (Q.mk x y z u)) t⟩) (putC d (i - 2 ^ (d + 1)))
       else @PC.rec d (fun _ => PC (d + 2)) (fun f => ⟨fun t v k => @Q.rec (Tr d) (fun _ => Bool) (fun x y z u => f u v fun u => k (Q.mk x y z u)) t⟩) (putC d (i - 2 ^ (d + 1) - 2 ^ d)))
theorem putC_ok : ∀ (d i : Nat) (t : Tr d) (v : AV) (k : Tr d → Bool), ∃ t', av d t' = cput d (av d t) i v ∧ (putC d i).run t v k = k t'
  | 0, i, t, v, k => ⟨Bx.mk v, rfl, rfl⟩
  | 1, i, t, v, k => by
    obtain ⟨l, r⟩ := t
    unfold putC
    simp only [av, cput, kidL, kidR, Nat.pow_zero]
    cases Nat.blt i 1 with
    | true => exact ⟨Prod.mk (Bx.mk v) r, rfl, rfl⟩
    | false => exact ⟨Prod.mk l (Bx.mk v), rfl, rfl⟩
  | d + 2, i, t, v, k => by
    obtain ⟨x, y, z, u⟩ := t
    unfold putC
    simp only [av, cput, kidL, kidR]
    cases Nat.blt i (2 ^ (d + 1)) with
    | true =>
      simp only [cond_true]
      cases Nat.blt i (2 ^ d) with
      | true =>
        obtain ⟨x', e1, e2⟩ := putC_ok d i x v (fun x => k (Q.mk x y z u))
        exact ⟨Q.mk x' y z u, by show AV.node (.node (av d x') (av d y)) (.node (av d z) (av d u)) = _; rw [e1]; rfl, e2⟩
      | false =>
        obtain ⟨y', e1, e2⟩ := putC_ok d (i - 2 ^ d) y v (fun y => k (Q.mk x y z u))
        exact ⟨Q.mk x y' z u, by show AV.node (.node (av d x) (av d y')) (.node (av d z) (av d u)) = _; rw [e1]; rfl, e2⟩
    | false =>
      simp only [cond_false]
      cases Nat.blt (i - 2 ^ (d + 1)) (2 ^ d) with
      | true =>
        obtain ⟨z', e1, e2⟩ := putC_ok d (i - 2 ^ (d + 1)) z v (fun z => k (Q.mk x y z u))
        exact ⟨Q.mk x y z' u, by show AV.node (.node (av d x) (av d y)) (.node (av d z') (av d u)) = _; rw [e1]; rfl, e2⟩
      | false =>
        obtain ⟨u', e1, e2⟩ := putC_ok d (i - 2 ^ (d + 1) - 2 ^ d) u v (fun u => k (Q.mk x y z u))
        exact ⟨Q.mk x y z u', by show AV.node (.node (av d x) (av d y)) (.node (av d z) (av d u')) = _; rw [e1]; rfl, e2⟩

noncomputable def dstC (n d : Nat) : Option Nat → PC d
  | none => ⟨fun t _ k => k t⟩
  | some i => bif Nat.blt i n then putC d i else ⟨fun t _ k => k t⟩
theorem dstC_ok (n d : Nat) (dst : Option Nat) (t : Tr d) (v : AV) {k : Tr d → Bool} (h : (dstC n d dst).run t v k = true) : ∃ t', av d t' = putA n d (av d t) dst v ∧ k t' = true := by
  cases dst with
  | none => exact ⟨t, rfl, h⟩
  | some i =>
    unfold dstC at h
    dsimp only at h
    simp only [putA]
    cases hb : Nat.blt i n with
    | true =>
      rw [hb] at h
      obtain ⟨t', e1, e2⟩ := putC_ok d i t v k
      exact ⟨t', e1, by rw [← e2]; exact h⟩
    | false => rw [hb] at h; exact ⟨t, rfl, h⟩

/-! ### Operands -/
noncomputable def ocA (G n d : Nat) : Operand → GC d
  | .tmp t => bif Nat.blt t n then getC d t else ⟨fun _ k => k .undef⟩
  | .const v => forceV (ofConst v) fun a => ⟨fun _ k => k a⟩
  | .global g => bif Nat.blt g G then ⟨fun _ k => k (.ptr g 0)⟩ else ⟨fun _ k => k .bad⟩
  | .func f => ⟨fun _ k => k (.fn f .lnil .lnil)⟩

def OcOk {d : Nat} (oc : Operand → GC d) (ρ : Tr d → Operand → AV) : Prop := ∀ x t k, (oc x).run t k = true → k (ρ t x) = true

theorem ocA_ok (G n d : Nat) : OcOk (ocA G n d) (fun t => opndA G n d (av d t)) := by
  intro x t k h
  cases x with
  | tmp i =>
    unfold ocA at h
    dsimp only at h
    simp only [opndA]
    cases hb : Nat.blt i n with
    | true => rw [hb] at h; exact (getC_run d i t k).symm.trans h
    | false => rw [hb] at h; exact h
  | const v => unfold ocA at h; dsimp only at h; rw [forceV_eq] at h; exact h
  | global g =>
    unfold ocA at h
    dsimp only at h
    simp only [opndA]
    cases hb : Nat.blt g G with
    | true => rw [hb] at h; exact h
    | false => rw [hb] at h; exact h
  | func f => exact h

noncomputable def ocS (G n d : Nat) (ls : List Nat) : Operand → GC d
  | .tmp t => bif Nat.blt t n && ls.any (fun s => Nat.beq s t) then getC d t else ⟨fun _ _ => false⟩
  | .const v => forceV (ofConst v) fun a => ⟨fun _ k => k a⟩
  | .global g => bif Nat.blt g G then ⟨fun _ k => k (.ptr g 0)⟩ else ⟨fun _ k => k .bad⟩
  | .func f => ⟨fun _ k => k (.fn f .lnil .lnil)⟩

theorem pickS_snap {n d t : Nat} {tm : AV} (ht : Nat.blt t n = true) : ∀ {ls : List Nat}, ls.any (fun s => Nat.beq s t) = true → pickS t ls (snap n d tm ls) = cget d tm t
  | [], h => by simp at h
  | s :: l, h => by
    simp only [snap, pickS]
    cases hb : Nat.beq s t with
    | true => have := beqn_iff.1 hb; subst this; simp only [ht, cond_true]
    | false =>
      simp only [cond_false]
      simp only [List.any_cons, hb, Bool.false_or] at h
      exact pickS_snap ht h

theorem ocS_ok (G n d : Nat) (ls : List Nat) : OcOk (ocS G n d ls) (fun t => opndS G ls (snap n d (av d t) ls)) := by
  intro x t k h
  cases x with
  | tmp i =>
    unfold ocS at h
    dsimp only at h
    simp only [opndS]
    cases hb : (Nat.blt i n && ls.any (fun s => Nat.beq s i)) with
    | true =>
      rw [hb] at h
      simp only [Bool.and_eq_true] at hb
      rw [pickS_snap hb.1 hb.2]
      exact (getC_run d i t k).symm.trans h
    | false => rw [hb] at h; exact Bool.noConfusion (show false = true from h)
  | const v => unfold ocS at h; dsimp only at h; rw [forceV_eq] at h; exact h
  | global g =>
    unfold ocS at h
    dsimp only at h
    simp only [opndS]
    cases hb : Nat.blt g G with
    | true => rw [hb] at h; exact h
    | false => rw [hb] at h; exact h
  | func f => exact h

end I
end Go.Proofs.YtpaekplhcjleaaaGreatDoor

/- Operations by continuations. -/
namespace Go.Proofs.YtpaekplhcjleaaaGreatDoor
namespace I
set_option linter.unusedVariables false

abbrev VK := AV → AV → Nat → Bool
abbrev KC := Nat → List AV → AV → Nat → VK → Bool
def KcOk (Kc : KC) (K : KF) : Prop := ∀ f args h nx k, Kc f args h nx k = true → ∃ v h' nx', K f args h nx = some (v, h', nx') ∧ k v h' nx' = true

/-- One operation, calls carried out. -/
def sstep (P : Program) (K : KF) (ρ : Operand → AV) (h : AV) (nx : Nat) (o : Oper) : Option (AV × AV × Nat) :=
  match astep P ρ h nx o with
  | some (.val v h' nx') => some (v, h', nx')
  | some (.call f args) => K f args h nx
  | none => none

structure XC (d : Nat) where
  run : KC → Tr d → AV → Nat → VK → Bool

def XcOk {d : Nat} (P : Program) (ρ : Tr d → Operand → AV) (o : Oper) (x : XC d) : Prop :=
  ∀ Kc K, KcOk Kc K → ∀ t h nx k, x.run Kc t h nx k = true → ∃ v h' nx', sstep P K (ρ t) h nx o = some (v, h', nx') ∧ k v h' nx' = true

section
variable {P : Program} {K : KF} {ρ : Operand → AV} {h : AV} {nx : Nat} {o : Oper}

theorem sstep_pure {v : AV} (e : apure P ρ o = some v) : sstep P K ρ h nx o = some (v, h, nx) := by simp only [sstep, astep, e]
theorem sstep_read {v : AV} (e0 : apure P ρ o = none) (e : aread P ρ h o = some v) : sstep P K ρ h nx o = some (v, h, nx) := by simp only [sstep, astep, e0, e]
theorem sstep_new {nv : NV} {x : AV} (e0 : apure P ρ o = none) (e1 : aread P ρ h o = none) (e : anew P ρ o = some (nv, x)) (hb : Nat.blt nx (2 ^ HD) = true) : sstep P K ρ h nx o = some (nv.at nx, cput HD h nx x, nx + 1) := by
  simp only [sstep, astep, e0, e1, e, hb, cond_true]
theorem sstep_eff {r : AV × AV × Nat} (e0 : apure P ρ o = none) (e1 : aread P ρ h o = none) (e2 : anew P ρ o = none) (e : aeff P ρ h nx o = some r) : sstep P K ρ h nx o = some r := by
  obtain ⟨v, h', nx'⟩ := r
  simp only [sstep, astep, e0, e1, e2, e]
theorem sstep_call {f : Nat} {args : List AV} (e0 : apure P ρ o = none) (e1 : aread P ρ h o = none) (e2 : anew P ρ o = none) (e3 : aeff P ρ h nx o = none) (e : acallee ρ o = some (f, args)) : sstep P K ρ h nx o = K f args h nx := by
  simp only [sstep, astep, e0, e1, e2, e3, e]
end

/-- As the interpreter does it. -/
noncomputable def slowE (r : Option SR) (Kc : KC) (h : AV) (nx : Nat) (k : VK) : Bool :=
  match r with
  | some (.val v h' nx') => forceV v fun v => fN nx' fun nx' => k v h' nx'
  | some (.call f args) => Kc f args h nx k
  | none => false
noncomputable def slowC {d : Nat} (P : Program) (ρ : Tr d → Operand → AV) (o : Oper) : XC d := ⟨fun Kc t h nx k => slowE (astep P (ρ t) h nx o) Kc h nx k⟩

def failC {d : Nat} : XC d := ⟨fun _ _ _ _ _ => false⟩

section
variable {d : Nat} {P : Program} {ρ : Tr d → Operand → AV} {o : Oper}

theorem slowC_ok : XcOk P ρ o (slowC P ρ o) := by
  intro Kc K hK t h nx k hh
  unfold slowC at hh
  dsimp only at hh
  unfold slowE at hh
  unfold sstep
  split at hh
  · rename_i v h' nx' e
    rw [forceV_eq, fN_eq] at hh
    exact ⟨v, h', nx', rfl, hh⟩
  · rename_i f args e
    obtain ⟨v, h', nx', e1, e2⟩ := hK _ _ _ _ _ hh
    exact ⟨v, h', nx', e1, e2⟩
  · cases hh

theorem failC_ok : XcOk P ρ o failC := fun _ _ _ _ _ _ _ hh => Bool.noConfusion (show false = true from hh)

/-- Operations on one, two values. -/
noncomputable def p1 (g : GC d) (F : AV → Option AV) : XC d := @GC.rec d (fun _ => XC d) (fun g => ⟨fun Kc t h nx k => g t fun a => optE (F a) fun v => k v h nx⟩) g
noncomputable def p2 (g g' : GC d) (F : AV → AV → Option AV) : XC d :=
  @GC.rec d (fun _ => XC d) (fun g => @GC.rec d (fun _ => XC d) (fun g' => ⟨fun Kc t h nx k => g t fun a => g' t fun b => optE (F a b) fun v => k v h nx⟩) g') g
noncomputable def p3 (g g' g'' : GC d) (F : AV → AV → AV → Option AV) : XC d :=
  @GC.rec d (fun _ => XC d) (fun g => @GC.rec d (fun _ => XC d) (fun g' => @GC.rec d (fun _ => XC d) (fun g'' => ⟨fun Kc t h nx k => g t fun a => g' t fun b => g'' t fun c => optE (F a b c) fun v => k v h nx⟩) g'') g') g

variable {oc : Operand → GC d} (hoc : OcOk oc ρ)
include hoc

theorem p1_ok {x : Operand} {F : AV → Option AV} (hF : ∀ t, apure P (ρ t) o = F (ρ t x)) : XcOk P ρ o (p1 (oc x) F) := by
  intro Kc K hK t h nx k hh
  have h1 := hoc x t _ hh
  obtain ⟨v, e, h2⟩ := optE_ok h1
  exact ⟨v, h, nx, sstep_pure ((hF t).trans e), h2⟩
theorem p2_ok {x y : Operand} {F : AV → AV → Option AV} (hF : ∀ t, apure P (ρ t) o = F (ρ t x) (ρ t y)) : XcOk P ρ o (p2 (oc x) (oc y) F) := by
  intro Kc K hK t h nx k hh
  have h1 := hoc y t _ (hoc x t _ hh)
  obtain ⟨v, e, h2⟩ := optE_ok h1
  exact ⟨v, h, nx, sstep_pure ((hF t).trans e), h2⟩
theorem p3_ok {x y z : Operand} {F : AV → AV → AV → Option AV} (hF : ∀ t, apure P (ρ t) o = F (ρ t x) (ρ t y) (ρ t z)) : XcOk P ρ o (p3 (oc x) (oc y) (oc z) F) := by
  intro Kc K hK t h nx k hh
  have h1 := hoc z t _ (hoc y t _ (hoc x t _ hh))
  obtain ⟨v, e, h2⟩ := optE_ok h1
  exact ⟨v, h, nx, sstep_pure ((hF t).trans e), h2⟩

/-- A value as it is. -/
noncomputable def mvC (g : GC d) : XC d := @GC.rec d (fun _ => XC d) (fun g => ⟨fun Kc t h nx k => g t fun a => k a h nx⟩) g
theorem mvC_ok {x : Operand} (hF : ∀ t, apure P (ρ t) o = some (ρ t x)) : XcOk P ρ o (mvC (oc x)) := by
  intro Kc K hK t h nx k hh
  exact ⟨_, h, nx, sstep_pure (hF t), hoc x t _ hh⟩

noncomputable def chkC (g : GC d) (B : AV → Bool) : XC d := @GC.rec d (fun _ => XC d) (fun g => ⟨fun Kc t h nx k => g t fun a => bif B a then k a h nx else false⟩) g
theorem chkC_ok {x : Operand} {B : AV → Bool} (hF : ∀ t, B (ρ t x) = true → apure P (ρ t) o = some (ρ t x)) : XcOk P ρ o (chkC (oc x) B) := by
  intro Kc K hK t h nx k hh
  obtain ⟨h1, h2⟩ := cond_ok (hoc x t _ hh)
  exact ⟨_, h, nx, sstep_pure (hF t h1), h2⟩
end

/-! ### Numbers -/
noncomputable def wrapE (k : IntKind) (m : Nat) (c : AV → Bool) : Bool :=
  bif Nat.ble m (maxN k) then fN m fun m => c (.int k (.ofNat m)) else
  bif K.sg k then fI (k.wrap (.ofNat m)) fun r => c (.int k r) else fN (Nat.mod m (Nat.succ (maxN k))) fun r => c (.int k (.ofNat r))

theorem wrap_uns {k : IntKind} {m : Nat} (h : K.sg k = false) : k.wrap (.ofNat m) = .ofNat (m % (maxN k + 1)) := by
  cases k <;> first | (exact Bool.noConfusion (show true = false from h)) | (simp [IntKind.wrap, IntKind.signed, IntKind.bits, maxN])

theorem wrapE_ok {k : IntKind} {m : Nat} {c : AV → Bool} (h : wrapE k m c = true) : c (.int k (wrapF k (.ofNat m))) = true := by
  unfold wrapE at h
  simp only [wrapF]
  cases hb : Nat.ble m (maxN k) with
  | true => rw [hb] at h; simpa only [cond_true, fN_eq] using h
  | false =>
    rw [hb] at h
    simp only [cond_false] at h ⊢
    cases hs : K.sg k with
    | true => rw [hs] at h; simpa only [cond_true, fI_eq] using h
    | false => rw [hs] at h; rw [wrap_uns hs]; simp only [cond_false, fN_eq] at h; exact h

noncomputable def wrapIE (k : IntKind) (n : Int) (c : AV → Bool) : Bool := @Int.rec (fun _ => Bool) (fun m => wrapE k m c) (fun m => fI (wrapF k (.negSucc m)) fun r => c (.int k r)) n
theorem wrapIE_ok {k : IntKind} {n : Int} {c : AV → Bool} (h : wrapIE k n c = true) : c (.int k (wrapF k n)) = true := by
  cases n with
  | ofNat m => exact wrapE_ok h
  | negSucc m => exact (fI_eq (wrapF k (.negSucc m)) fun r => c (.int k r)).symm.trans h

structure BC where
  run : IntKind → Int → Int → (AV → Bool) → Bool
def BcOk (op : BinOp) (b : BC) : Prop := ∀ k a b' c, b.run k a b' c = true → ∃ v, binI op k a b' = some v ∧ c v = true

noncomputable def addE (k : IntKind) (a b : Int) (c : AV → Bool) : Bool :=
  @Int.rec (fun _ => Bool) (fun m => @Int.rec (fun _ => Bool) (fun n => wrapE k (Nat.add m n) c) (fun _ => fI (wrapF k (a + b)) fun r => c (.int k r)) b) (fun _ => fI (wrapF k (a + b)) fun r => c (.int k r)) a
noncomputable def subE (k : IntKind) (a b : Int) (c : AV → Bool) : Bool :=
  @Int.rec (fun _ => Bool) (fun m => @Int.rec (fun _ => Bool) (fun n => bif Nat.ble n m then wrapE k (Nat.sub m n) c else fI (wrapF k (a - b)) fun r => c (.int k r)) (fun _ => fI (wrapF k (a - b)) fun r => c (.int k r)) b) (fun _ => fI (wrapF k (a - b)) fun r => c (.int k r)) a
noncomputable def bitE (f : Nat → Nat → Nat) (k : IntKind) (a b : Int) (c : AV → Bool) : Bool :=
  natE a fun m => natE b fun n => bif Nat.ble m (maxN k) then bif Nat.ble n (maxN k) then fN (f m n) fun r => c (.int k (.ofNat r)) else false else false

noncomputable def bopC : BinOp → BC
  | .add => ⟨addE⟩
  | .sub => ⟨subE⟩
  | .and => ⟨bitE Nat.land⟩
  | .or => ⟨bitE Nat.lor⟩
  | .xor => ⟨bitE Nat.xor⟩
  | .eql => ⟨fun k a b c => fB (ieq a b) fun r => c (.bool r)⟩
  | .neq => ⟨fun k a b c => fB (!ieq a b) fun r => c (.bool r)⟩
  | .lss => ⟨fun k a b c => fB (ilt a b) fun r => c (.bool r)⟩
  | .leq => ⟨fun k a b c => fB (!ilt b a) fun r => c (.bool r)⟩
  | .gtr => ⟨fun k a b c => fB (ilt b a) fun r => c (.bool r)⟩
  | .geq => ⟨fun k a b c => fB (!ilt a b) fun r => c (.bool r)⟩
  | op => ⟨fun k a b c => optE (binI op k a b) c⟩

theorem fI_true {n : Int} {c : Int → Bool} (h : fI n c = true) : c n = true := (fI_eq n c).symm.trans h
theorem fB_true {n : Bool} {c : Bool → Bool} (h : fB n c = true) : c n = true := (fB_eq n c).symm.trans h
theorem fN_true {n : Nat} {c : Nat → Bool} (h : fN n c = true) : c n = true := (fN_eq n c).symm.trans h

theorem bitE_ok {f : Nat → Nat → Nat} {k : IntKind} {a b : Int} {c : AV → Bool} (h : bitE f k a b c = true) : ∃ m n, inr k a = some m ∧ inr k b = some n ∧ c (.int k (.ofNat (f m n))) = true := by
  obtain ⟨m, rfl, h1⟩ := natE_ok h
  obtain ⟨n, rfl, h2⟩ := natE_ok h1
  obtain ⟨e1, h3⟩ := cond_ok h2
  obtain ⟨e2, h4⟩ := cond_ok h3
  exact ⟨m, n, by simp only [inr, e1, cond_true], by simp only [inr, e2, cond_true], fN_true h4⟩

theorem bopC_ok (op : BinOp) : BcOk op (bopC op) := by
  intro k a b c h
  cases op
  case add =>
    refine ⟨_, rfl, ?_⟩
    have h' : addE k a b c = true := h
    cases a with
    | ofNat m =>
      cases b with
      | ofNat n => exact wrapE_ok (m := m + n) h'
      | negSucc n => exact fI_true (c := fun r => c (.int k r)) h'
    | negSucc m => exact fI_true (c := fun r => c (.int k r)) h'
  case sub =>
    refine ⟨_, rfl, ?_⟩
    have h' : subE k a b c = true := h
    cases a with
    | ofNat m =>
      cases b with
      | ofNat n =>
        have h2 : (bif Nat.ble n m then wrapE k (Nat.sub m n) c else fI (wrapF k (.ofNat m - .ofNat n)) fun r => c (.int k r)) = true := h'
        cases hb : Nat.ble n m with
        | true =>
          rw [hb] at h2
          have hle := ble_iff.1 hb
          have := wrapE_ok (m := m - n) h2
          rwa [show (Int.ofNat m - Int.ofNat n : Int) = Int.ofNat (m - n) by simp only [Int.ofNat_eq_natCast]; omega]
        | false => rw [hb] at h2; exact fI_true (c := fun r => c (.int k r)) h2
      | negSucc n => exact fI_true (c := fun r => c (.int k r)) h'
    | negSucc m => exact fI_true (c := fun r => c (.int k r)) h'
  case and => obtain ⟨m, n, e1, e2, h1⟩ := bitE_ok (show bitE Nat.land k a b c = true from h); exact ⟨_, by simp only [binI, e1, e2], h1⟩
  case or => obtain ⟨m, n, e1, e2, h1⟩ := bitE_ok (show bitE Nat.lor k a b c = true from h); exact ⟨_, by simp only [binI, e1, e2], h1⟩
  case xor => obtain ⟨m, n, e1, e2, h1⟩ := bitE_ok (show bitE Nat.xor k a b c = true from h); exact ⟨_, by simp only [binI, e1, e2], h1⟩
  case eql => exact ⟨_, rfl, (fB_eq _ fun r => c (.bool r)).symm.trans h⟩
  case neq => exact ⟨_, rfl, (fB_eq _ fun r => c (.bool r)).symm.trans h⟩
  case lss => exact ⟨_, rfl, (fB_eq _ fun r => c (.bool r)).symm.trans h⟩
  case leq => exact ⟨_, rfl, (fB_eq _ fun r => c (.bool r)).symm.trans h⟩
  case gtr => exact ⟨_, rfl, (fB_eq _ fun r => c (.bool r)).symm.trans h⟩
  case geq => exact ⟨_, rfl, (fB_eq _ fun r => c (.bool r)).symm.trans h⟩
  all_goals exact optE_ok h

noncomputable def shC (op : BinOp) : BC :=
  match op with
  | .shl => ⟨fun k a b c => natE b fun n => bif Nat.ble n k.bits then natE a fun m => wrapE k (Nat.mul m (Nat.pow 2 n)) c else false⟩
  | .shr => ⟨fun k a b c => natE b fun n => bif Nat.ble n k.bits then natE a fun m => fN (Nat.div m (Nat.pow 2 n)) fun r => c (.int k (.ofNat r)) else false⟩
  | op => ⟨fun k a b c => optE (shI op k a b) c⟩
theorem shC_ok (op : BinOp) {k : IntKind} {a b : Int} {c : AV → Bool} (h : (shC op).run k a b c = true) : ∃ v, shI op k a b = some v ∧ c v = true := by
  unfold shC at h
  split at h
  · obtain ⟨n, rfl, h1⟩ := natE_ok h
    obtain ⟨e1, h2⟩ := cond_ok h1
    obtain ⟨m, rfl, h3⟩ := natE_ok h2
    exact ⟨_, by simp only [shI, e1, cond_true]; rfl, wrapE_ok h3⟩
  · obtain ⟨n, rfl, h1⟩ := natE_ok h
    obtain ⟨e1, h2⟩ := cond_ok h1
    obtain ⟨m, rfl, h3⟩ := natE_ok h2
    exact ⟨_, by simp only [shI, e1, cond_true]; rfl, fN_true h3⟩
  · exact optE_ok h

section
variable {d : Nat} {P : Program} {ρ : Tr d → Operand → AV} {o : Oper} {oc : Operand → GC d}

noncomputable def ibC (b : BC) (g g' : GC d) : XC d :=
  @BC.rec (fun _ => XC d) (fun f => @GC.rec d (fun _ => XC d) (fun g => @GC.rec d (fun _ => XC d) (fun g' => ⟨fun Kc t h nx k => g t fun a => intE a fun ka na => g' t fun b => intE b fun kb nb =>
    bif Nat.beq (kn ka) (kn kb) then f ka na nb fun v => k v h nx else false⟩) g') g) b
noncomputable def isC (b : BC) (g g' : GC d) : XC d :=
  @BC.rec (fun _ => XC d) (fun f => @GC.rec d (fun _ => XC d) (fun g => @GC.rec d (fun _ => XC d) (fun g' => ⟨fun Kc t h nx k => g t fun a => intE a fun ka na => g' t fun b => intE b fun kb nb =>
    f ka na nb fun v => k v h nx⟩) g') g) b

noncomputable def binC (P : Program) (op : BinOp) (ty : TypeId) (g g' : GC d) : XC d :=
  match P.underlying ty with
  | some (.int _) => bif isSh op then isC (shC op) g g' else ibC (bopC op) g g'
  | _ => p2 g g' (abin P op ty)

theorem binC_ok (hoc : OcOk oc ρ) {op : BinOp} {ty yt : TypeId} {x y : Operand} (ho : o.op = .binOp op ty x y yt) : XcOk P ρ o (binC P op ty (oc x) (oc y)) := by
  have hp : ∀ t, apure P (ρ t) o = abin P op ty (ρ t x) (ρ t y) := fun t => by simp only [apure, ho]
  unfold binC
  split
  · cases hs : isSh op with
    | true =>
      simp only [cond_true]
      intro Kc K hK t h nx k hh
      obtain ⟨ka, na, e1, h1⟩ := intE_ok (hoc x t _ hh)
      obtain ⟨kb, nb, e2, h2⟩ := intE_ok (hoc y t _ h1)
      obtain ⟨v, e3, h3⟩ := shC_ok op h2
      exact ⟨v, h, nx, sstep_pure ((hp t).trans (by rw [e1, e2]; simp only [abin, hs, cond_true, e3])), h3⟩
    | false =>
      simp only [cond_false]
      intro Kc K hK t h nx k hh
      obtain ⟨ka, na, e1, h1⟩ := intE_ok (hoc x t _ hh)
      obtain ⟨kb, nb, e2, h2⟩ := intE_ok (hoc y t _ h1)
      obtain ⟨e4, h3⟩ := cond_ok h2
      obtain ⟨v, e3, h3⟩ := bopC_ok op _ _ _ _ h3
      exact ⟨v, h, nx, sstep_pure ((hp t).trans (by rw [e1, e2]; simp only [abin, hs, cond_false, e4, cond_true, e3])), h3⟩
  · exact p2_ok hoc hp

noncomputable def convC (P : Program) (ρ : Tr d → Operand → AV) (o : Oper) (src dst : TypeId) (g : GC d) : XC d :=
  match P.underlying src, P.underlying dst with
  | some (.int _), some (.int k') => @GC.rec d (fun _ => XC d) (fun g => ⟨fun Kc t h nx k => g t fun a => intE a fun _ n => wrapIE k' n fun v => k v h nx⟩) g
  | _, _ => slowC P ρ o

theorem convC_ok (hoc : OcOk oc ρ) {src dst : TypeId} {x : Operand} (ho : o.op = .convert src dst x) : XcOk P ρ o (convC P ρ o src dst (oc x)) := by
  unfold convC
  split
  · rename_i k0 k' h1 h2
    intro Kc K hK t h nx k hh
    obtain ⟨ka, na, e1, h3⟩ := intE_ok (hoc x t _ hh)
    refine ⟨_, h, nx, sstep_pure (v := .int k' (wrapF k' na)) ?_, wrapIE_ok h3⟩
    simp only [apure, ho, h1, h2, e1]
  · exact slowC_ok

def okNil : AV → Bool
  | .ptr _ _ | .fn .. | .ifc .. => true
  | _ => false

noncomputable def faC (P : Program) (s : TypeId) (f : Nat) (g : GC d) : XC d :=
  match P.underlying s with
  | some (.struct fs) => match fs[f]? with
    | some fl => match P.info? fl.type with
      | some inf => bif Nat.beq inf.size 0 then failC else fN fl.offset fun o' => @GC.rec d (fun _ => XC d) (fun g => ⟨fun Kc t h nx k => g t fun a => ptrE a fun b off => fN (Nat.add off o') fun o' => k (.ptr b o') h nx⟩) g
      | none => failC
    | none => failC
  | _ => failC

theorem faC_ok (hoc : OcOk oc ρ) {s : TypeId} {x : Operand} {f : Nat} (ho : o.op = .fieldAddr s x f) : XcOk P ρ o (faC P s f (oc x)) := by
  unfold faC
  split
  · rename_i fs hu
    split
    · rename_i fl hf
      split
      · rename_i inf hi
        cases hb : Nat.beq inf.size 0 with
        | true => exact failC_ok
        | false =>
          simp only [cond_false, fN_eq]
          intro Kc K hK t h nx k hh
          obtain ⟨b, off, e1, h1⟩ := ptrE_ok (hoc x t _ hh)
          refine ⟨_, h, nx, sstep_pure (v := .ptr b (off + fl.offset)) ?_, h1⟩
          simp only [apure, ho, hu, e1, hf, hi, hb, cond_false]
      · exact failC_ok
    · exact failC_ok
  · exact failC_ok

noncomputable def iaC (P : Program) (ty : TypeId) (g g' : GC d) : XC d :=
  match P.underlying ty with
  | some (.slice e) => match P.info? e with
    | some inf => fN inf.size fun sz => @GC.rec d (fun _ => XC d) (fun g => @GC.rec d (fun _ => XC d) (fun g' => ⟨fun Kc t h nx k => g t fun a => slE a fun b off len _ sz' => g' t fun i => intE i fun _ n => natE n fun i =>
        bif Nat.beq sz sz' && Nat.blt i len then fN (Nat.add off (Nat.mul i sz')) fun o' => k (.ptr b o') h nx else false⟩) g') g
    | none => failC
  | some (.array len e) => match P.info? e with
    | some inf => fN inf.size fun sz => fN len fun len => @GC.rec d (fun _ => XC d) (fun g => @GC.rec d (fun _ => XC d) (fun g' => ⟨fun Kc t h nx k => g t fun a => ptrE a fun b off => g' t fun i => intE i fun _ n => natE n fun i =>
        bif Nat.blt i len then fN (Nat.add off (Nat.mul i sz)) fun o' => k (.ptr b o') h nx else false⟩) g') g
    | none => failC
  | _ => failC

theorem iaC_ok (hoc : OcOk oc ρ) {ty : TypeId} {x y : Operand} (ho : o.op = .indexAddr ty x y) : XcOk P ρ o (iaC P ty (oc x) (oc y)) := by
  unfold iaC
  split
  · rename_i e hu
    split
    · rename_i inf hi
      simp only [fN_eq]
      intro Kc K hK t h nx k hh
      obtain ⟨b, off, len, lb, sz, e1, h1⟩ := slE_ok (hoc x t _ hh)
      obtain ⟨k', n, e2, h2⟩ := intE_ok (hoc y t _ h1)
      obtain ⟨i, rfl, h3⟩ := natE_ok h2
      obtain ⟨e3, h4⟩ := cond_ok h3
      refine ⟨_, h, nx, sstep_pure (v := .ptr b (off + i * sz)) ?_, h4⟩
      simp only [apure, ho, hu, e1, e2, hi, e3, cond_true]
    · exact failC_ok
  · rename_i len e hu
    split
    · rename_i inf hi
      simp only [fN_eq]
      intro Kc K hK t h nx k hh
      obtain ⟨b, off, e1, h1⟩ := ptrE_ok (hoc x t _ hh)
      obtain ⟨k', n, e2, h2⟩ := intE_ok (hoc y t _ h1)
      obtain ⟨i, rfl, h3⟩ := natE_ok h2
      obtain ⟨e3, h4⟩ := cond_ok h3
      refine ⟨_, h, nx, sstep_pure (v := .ptr b (off + i * inf.size)) ?_, h4⟩
      simp only [apure, ho, hu, e1, e2, hi, e3, cond_true]
    · exact failC_ok
  · exact failC_ok

noncomputable def ixC (P : Program) (ty : TypeId) (g g' : GC d) : XC d :=
  match P.underlying ty with
  | some .string => @GC.rec d (fun _ => XC d) (fun g => @GC.rec d (fun _ => XC d) (fun g' => ⟨fun Kc t h nx k => g t fun a => strE a fun n s => g' t fun i => intE i fun _ m => natE m fun i =>
        bif Nat.blt i n then fN (Nat.mod (Nat.div s (Nat.pow 256 (Nat.sub (Nat.sub n 1) i))) 256) fun r => k (.int .u8 (.ofNat r)) h nx else false⟩) g') g
  | some (.array len e) => match P.info? e with
    | some inf => @GC.rec d (fun _ => XC d) (fun g => @GC.rec d (fun _ => XC d) (fun g' => ⟨fun Kc t h nx k => g t fun a => aggE a fun n u => g' t fun i => intE i fun _ m => natE m fun i =>
        bif Nat.blt i len then optE (apartA P e n u (i * inf.size)) fun v => k v h nx else false⟩) g') g
    | none => failC
  | _ => failC

theorem ixC_ok (hoc : OcOk oc ρ) {ty : TypeId} {x y : Operand} (ho : o.op = .index ty x y) : XcOk P ρ o (ixC P ty (oc x) (oc y)) := by
  unfold ixC
  split
  · rename_i hu
    intro Kc K hK t h nx k hh
    obtain ⟨n, s, e1, h1⟩ := strE_ok (hoc x t _ hh)
    obtain ⟨k', m, e2, h2⟩ := intE_ok (hoc y t _ h1)
    obtain ⟨i, rfl, h3⟩ := natE_ok h2
    obtain ⟨e3, h4⟩ := cond_ok h3
    refine ⟨_, h, nx, sstep_pure (v := .int .u8 (.ofNat (sbyte n s i))) ?_, (fN_eq _ fun r => k (.int .u8 (.ofNat r)) h nx).symm.trans h4⟩
    simp only [apure, ho, hu, e1, e2, e3, cond_true]
  · rename_i len e hu
    split
    · rename_i inf hi
      intro Kc K hK t h nx k hh
      obtain ⟨n, u, e1, h1⟩ := aggE_ok (hoc x t _ hh)
      obtain ⟨k', m, e2, h2⟩ := intE_ok (hoc y t _ h1)
      obtain ⟨i, rfl, h3⟩ := natE_ok h2
      obtain ⟨e3, h4⟩ := cond_ok h3
      obtain ⟨v, e4, h5⟩ := optE_ok h4
      refine ⟨v, h, nx, sstep_pure ?_, h5⟩
      simp only [apure, ho, hu, e1, e2, hi, e3, cond_true, e4]
    · exact failC_ok
  · exact failC_ok

/-! ### Memory -/
noncomputable def loadC (P : Program) (ty : TypeId) (g : GC d) : XC d :=
  match P.underlying ty, P.info? ty with
  | some dsc, some inf => bif isA dsc then fN inf.size fun sz => @GC.rec d (fun _ => XC d) (fun g => ⟨fun Kc t h nx k => g t fun a => ptrE a fun b off => cgetK HD h b fun c => cellsE c fun _ n _ u =>
        bif Nat.ble (Nat.add off sz) n then (bif Nat.beq off 0 && Nat.beq sz n then k (.agg sz u) h nx else k (.agg sz (crow (lg n) u off sz)) h nx) else false⟩) g
      else @GC.rec d (fun _ => XC d) (fun g => ⟨fun Kc t h nx k => g t fun a => ptrE a fun b off => cgetK HD h b fun c => cellsE c fun _ n _ u =>
        bif Nat.blt off n then cgetK (lg n) u off fun v => k v h nx else false⟩) g
  | _, _ => failC

theorem csub_self (d : Nat) (t : AV) (off : Nat) : csub d d t off = t := by
  cases d with
  | zero => rfl
  | succ d => simp only [csub, Nat.beq_refl, cond_true]

theorem crow_all (n : Nat) (t : AV) : crow (lg n) t 0 n = t := by
  unfold crow
  rw [Nat.zero_mod, ble_iff.2 (Nat.le_refl (lg n))]
  exact csub_self _ _ _

theorem loadC_ok (hoc : OcOk oc ρ) {ty : TypeId} {x : Operand} (ho : o.op = .load ty x) : XcOk P ρ o (loadC P ty (oc x)) := by
  have h0 : ∀ t, apure P (ρ t) o = none := fun t => by simp only [apure, ho]
  unfold loadC
  split
  · rename_i dsc inf hu hi
    cases hA : isA dsc with
    | true =>
      simp only [cond_true, fN_eq]
      intro Kc K hK t h nx k hh
      obtain ⟨b, off, e1, h1⟩ := ptrE_ok (hoc x t _ hh)
      have h2 := cgetK_ok h1
      obtain ⟨ety, n, ro, u, e2, h3⟩ := cellsE_ok h2
      obtain ⟨e3, h4⟩ := cond_ok h3
      have e3' : Nat.ble (off + inf.size) n = true := e3
      refine ⟨_, h, nx, sstep_read (h0 t) (v := .agg inf.size (crow (lg n) u off inf.size)) ?_, ?_⟩
      · simp only [aread, ho, e1, e2, apartA, hu, hi, hA, cond_true, e3']
      · cases hz : (Nat.beq off 0 && Nat.beq inf.size n) with
        | true =>
          rw [hz] at h4
          simp only [Bool.and_eq_true] at hz
          have z1 := beqn_iff.1 hz.1
          have z2 := beqn_iff.1 hz.2
          rw [z1, z2, crow_all]
          rw [z2] at h4
          exact h4
        | false => rw [hz] at h4; exact h4
    | false =>
      simp only [cond_false]
      intro Kc K hK t h nx k hh
      obtain ⟨b, off, e1, h1⟩ := ptrE_ok (hoc x t _ hh)
      have h2 := cgetK_ok h1
      obtain ⟨ety, n, ro, u, e2, h3⟩ := cellsE_ok h2
      obtain ⟨e3, h4⟩ := cond_ok h3
      refine ⟨_, h, nx, sstep_read (h0 t) (v := cget (lg n) u off) ?_, cgetK_ok h4⟩
      simp only [aread, ho, e1, e2, apartA, hu, hi, hA, cond_false, e3, cond_true]
  · exact failC_ok

noncomputable def storeC (P : Program) (ty : TypeId) (g g' : GC d) : XC d :=
  match P.info? ty with
  | some inf => bif Nat.beq inf.size 1 then
      @GC.rec d (fun _ => XC d) (fun g => @GC.rec d (fun _ => XC d) (fun g' => ⟨fun Kc t h nx k => g t fun a => ptrE a fun b off => g' t fun v => bif scalarA v then
        cgetK HD h b fun c => cellsE c fun ety n ro u => bif ro then false else bif Nat.ble (Nat.succ off) n then cputK (lg n) u off v fun u' => cputK HD h b (.cells ety n false u') fun h' => k .undef h' nx else false
        else aggE v fun m s => cgetK HD h b fun c => cellsE c fun ety n ro u => bif ro then false else bif Nat.beq m 1 && Nat.ble (Nat.add off m) n then cputK HD h b (.cells ety n false (cblit (lg n) u off m s)) fun h' => k .undef h' nx else false⟩) g') g
    else fN inf.size fun sz =>
      @GC.rec d (fun _ => XC d) (fun g => @GC.rec d (fun _ => XC d) (fun g' => ⟨fun Kc t h nx k => g t fun a => ptrE a fun b off => g' t fun v => aggE v fun m s =>
        cgetK HD h b fun c => cellsE c fun ety n ro u => bif ro then false else bif Nat.beq m sz && Nat.ble (Nat.add off m) n then
          (bif Nat.beq off 0 && Nat.beq m n then cputK HD h b (.cells ety n false s) fun h' => k .undef h' nx else cputK HD h b (.cells ety n false (cblit (lg n) u off m s)) fun h' => k .undef h' nx) else false⟩) g') g
  | none => failC

theorem cputs0 : ∀ (d : Nat) (t : AV) (i : Nat) (v : AV), cputs d 0 t i v = cput d t i v
  | 0, t, i, v => rfl
  | d + 1, t, i, v => by
    simp only [cputs, cput, show Nat.beq (d + 1) 0 = false from rfl, cond_false]
    rw [cputs0 d, cputs0 d]

theorem cblit1 (d : Nat) (t : AV) (off : Nat) (s : AV) : cblit d t off 1 s = cput d t off s := by
  unfold cblit
  rw [show lg 1 = 0 from rfl, show Nat.beq 1 (2 ^ 0) = true from rfl, show off % 2 ^ 0 = 0 by simp [Nat.mod_one], show Nat.ble 0 d = true by cases d <;> rfl]
  exact cputs0 d t off s

theorem cputs_self (d : Nat) (t : AV) (off : Nat) (s : AV) : cputs d d t off s = s := by
  cases d with
  | zero => rfl
  | succ d => simp only [cputs, Nat.beq_refl, cond_true]

theorem cond_not {b c : Bool} (h : (bif b then false else c) = true) : b = false ∧ c = true := by
  cases b with
  | true => exact Bool.noConfusion (show false = true from h)
  | false => exact ⟨rfl, h⟩

end
end I
end Go.Proofs.YtpaekplhcjleaaaGreatDoor

/- Operations by continuations: stores, new blocks, calls; all of them. -/
namespace Go.Proofs.YtpaekplhcjleaaaGreatDoor
namespace I
set_option linter.unusedVariables false

section
variable {d : Nat} {P : Program} {ρ : Tr d → Operand → AV} {o : Oper} {oc : Operand → GC d}

theorem cblit_all (n : Nat) (t s : AV) : cblit (lg n) t 0 n s = s ∨ cblit (lg n) t 0 n s = cwrite (lg n) (lg n) s n 0 0 t := by
  unfold cblit
  cases hb : (Nat.beq n (2 ^ lg n) && (Nat.beq (0 % 2 ^ lg n) 0 && Nat.ble (lg n) (lg n))) with
  | true => exact .inl (cputs_self _ _ _ _)
  | false => exact .inr rfl

noncomputable def rowSt (P : Program) (sz : Nat) (h : AV) (b off m : Nat) (s : AV) (nx : Nat) (k : VK) : Bool :=
  cgetK HD h b fun c => cellsE c fun ety n ro u => bif ro then false else bif Nat.beq m sz && Nat.ble (Nat.add off m) n then cputK HD h b (.cells ety n false (cblit (lg n) u off m s)) fun h' => k .undef h' nx else false

noncomputable def stC (P : Program) (ty : TypeId) (g g' : GC d) : XC d :=
  match P.info? ty with
  | some inf => fN inf.size fun sz =>
      @GC.rec d (fun _ => XC d) (fun g => @GC.rec d (fun _ => XC d) (fun g' => ⟨fun Kc t h nx k => g t fun a => ptrE a fun b off => g' t fun v => bif scalarA v then
        bif Nat.beq 1 sz then cgetK HD h b fun c => cellsE c fun ety n ro u => bif ro then false else bif Nat.ble (Nat.succ off) n then cputK (lg n) u off v fun u' => cputK HD h b (.cells ety n false u') fun h' => k .undef h' nx else false else false
        else aggE v fun m s => rowSt P sz h b off m s nx k⟩) g') g
  | none => failC

theorem rowA_scalar {v : AV} (h : scalarA v = true) : rowA v = some (1, v) := by
  cases v <;> first | (exact Bool.noConfusion (show false = true from h)) | (simp only [rowA, h, cond_true])

theorem stC_ok (hoc : OcOk oc ρ) {ty : TypeId} {x y : Operand} (ho : o.op = .store ty x y) : XcOk P ρ o (stC P ty (oc x) (oc y)) := by
  have h0 : ∀ t, apure P (ρ t) o = none := fun t => by simp only [apure, ho]
  have h1 : ∀ t h, aread P (ρ t) h o = none := fun t h => by simp only [aread, ho]
  have h2 : ∀ t, anew P (ρ t) o = none := fun t => by simp only [anew, ho]
  unfold stC
  split
  · rename_i inf hi
    rw [fN_eq]
    intro Kc K hK t h nx k hh
    obtain ⟨b, off, e1, g1⟩ := ptrE_ok (hoc x t _ hh)
    have g2 := hoc y t _ g1
    cases hs : scalarA (ρ t y) with
    | true =>
      rw [hs] at g2
      obtain ⟨e2, g3⟩ := cond_ok (show (bif Nat.beq 1 inf.size then _ else false) = true from g2)
      obtain ⟨ety, n, ro, u, e3, g4⟩ := cellsE_ok (cgetK_ok g3)
      obtain ⟨rfl, g5⟩ := cond_not g4
      obtain ⟨e4, g6⟩ := cond_ok g5
      have g7 := cputK_ok (cputK_ok g6)
      have e4' : Nat.ble (off + 1) n = true := e4
      refine ⟨_, _, _, sstep_eff (h0 t) (h1 t h) (h2 t) (r := (.undef, cput HD h b (.cells ety n false (cput (lg n) u off (ρ t y))), nx)) ?_, g7⟩
      simp only [aeff, ho, e1, rowA_scalar hs, hi, e3, e2, e4', Bool.and_self, cond_true, cblit1]
    | false =>
      rw [hs] at g2
      obtain ⟨m, s, e2, g3⟩ := aggE_ok (show aggE (ρ t y) _ = true from g2)
      obtain ⟨ety, n, ro, u, e3, g4⟩ := cellsE_ok (cgetK_ok g3)
      obtain ⟨rfl, g5⟩ := cond_not g4
      obtain ⟨e4, g6⟩ := cond_ok g5
      have g7 := cputK_ok g6
      have e4' : (Nat.beq m inf.size && Nat.ble (off + m) n) = true := e4
      refine ⟨_, _, _, sstep_eff (h0 t) (h1 t h) (h2 t) (r := (.undef, cput HD h b (.cells ety n false (cblit (lg n) u off m s)), nx)) ?_, g7⟩
      simp only [aeff, ho, e1, e2, rowA, hi, e3, e4', cond_true]
  · exact failC_ok

/-- New blocks. -/
noncomputable def newE (r : Option (NV × AV)) (h : AV) (nx : Nat) (k : VK) : Bool :=
  match r with
  | some (nv, x) => bif Nat.blt nx (2 ^ HD) then cputK HD h nx x fun h' => fN (Nat.succ nx) fun nx' => forceV (nv.at nx) fun v => k v h' nx' else false
  | none => false
noncomputable def newC (P : Program) (ρ : Tr d → Operand → AV) (o : Oper) : XC d := ⟨fun Kc t h nx k => newE (anew P (ρ t) o) h nx k⟩
theorem newC_ok (h0 : ∀ t, apure P (ρ t) o = none) (h1 : ∀ t h, aread P (ρ t) h o = none) : XcOk P ρ o (newC P ρ o) := by
  intro Kc K hK t h nx k hh
  have hh' : newE (anew P (ρ t) o) h nx k = true := hh
  unfold newE at hh'
  split at hh'
  · rename_i nv x e
    obtain ⟨e1, g1⟩ := cond_ok hh'
    have g2 := cputK_ok g1
    rw [fN_eq, forceV_eq] at g2
    exact ⟨_, _, _, sstep_new (h0 t) (h1 t h) e e1, g2⟩
  · cases hh'

/-- Lists of values. -/
structure AC (d : Nat) where
  run : Tr d → (List AV → Bool) → Bool
noncomputable def argC (oc : Operand → GC d) : List Operand → AC d
  | [] => ⟨fun _ k => k []⟩
  | x :: l => @GC.rec d (fun _ => AC d) (fun g => @AC.rec d (fun _ => AC d) (fun f => ⟨fun t k => g t fun a => f t fun as => k (a :: as)⟩) (argC oc l)) (oc x)
theorem argC_ok (hoc : OcOk oc ρ) : ∀ (l : List Operand) (t : Tr d) (k : List AV → Bool), (argC oc l).run t k = true → k (l.map (ρ t)) = true
  | [], t, k, h => h
  | x :: l, t, k, h => by
    have h1 := hoc x t _ h
    exact argC_ok hoc l t _ h1

def bodied (P : Program) (f : Nat) : Bool :=
  match P.funcs[f]? with
  | some fn => fn.body.isSome
  | none => false

/-- A call of a function by its name. -/
noncomputable def callF (f : Nat) (a : AC d) : XC d := fN (Nat.mul 2 f) fun f => @AC.rec d (fun _ => XC d) (fun a => ⟨fun Kc t h nx k => a t fun as => Kc f as h nx k⟩) a
theorem aeff_bodied {h : AV} {nx f : Nat} {ρ : Operand → AV} {args : Array Operand} {tys : Array TypeId} (hb : bodied P f = true) (ho : o.op = .call ⟨.value (.func f), args, tys⟩) : aeff P ρ h nx o = none := by
  obtain ⟨dst, op, oty, pos, after, guard⟩ := o
  simp only at ho
  subst ho
  unfold bodied at hb
  split at hb
  · rename_i fn hf
    have hn : fn.body.isNone = false := by cases hx : fn.body <;> simp_all
    match args with
    | ⟨[]⟩ => rfl
    | ⟨[x]⟩ => simp only [aeff, hf, hn, Bool.false_and, cond_false]
    | ⟨[x, y]⟩ => simp only [aeff, hf, hn, Bool.false_and, cond_false]
    | ⟨x :: y :: z :: l⟩ => rfl
  · cases hb

theorem callF_ok (hoc : OcOk oc ρ) (hof : ∀ t f, ρ t (.func f) = .fn f .lnil .lnil) {f : Nat} {args : Array Operand} {tys : Array TypeId} (hb : bodied P f = true) (ho : o.op = .call ⟨.value (.func f), args, tys⟩) : XcOk P ρ o (callF f (argC oc args.toList)) := by
  unfold callF
  rw [fN_eq]
  intro Kc K hK t h nx k hh
  have h1 := argC_ok hoc _ t _ hh
  obtain ⟨v, h', nx', e1, e2⟩ := hK _ _ _ _ _ h1
  refine ⟨v, h', nx', ?_, e2⟩
  rw [sstep_call (f := 2 * f) (args := args.toList.map (ρ t))]
  · exact e1
  · simp only [apure, ho]
  · simp only [aread, ho]
  · simp only [anew, ho]
  · exact aeff_bodied hb ho
  · simp only [acallee, ho, hof, toList, List.nil_append, List.append_nil]

/-- A call of a function value. -/
noncomputable def fnE (v : AV) (as : List AV) (c : Nat → List AV → Bool) : Bool :=
  match v with
  | .fn g first caps => fN (Nat.mul 2 g) fun f => c f (toList first ++ (as ++ toList caps))
  | .yld b => fN (Nat.succ (Nat.mul 2 b)) fun f => c f as
  | _ => false
noncomputable def callV (g : GC d) (a : AC d) : XC d := @GC.rec d (fun _ => XC d) (fun g => @AC.rec d (fun _ => XC d) (fun a => ⟨fun Kc t h nx k => g t fun v => a t fun as => fnE v as fun f as => Kc f as h nx k⟩) a) g
theorem callV_ok (hoc : OcOk oc ρ) {x : Nat} {args : Array Operand} {tys : Array TypeId} (ho : o.op = .call ⟨.value (.tmp x), args, tys⟩) : XcOk P ρ o (callV (oc (.tmp x)) (argC oc args.toList)) := by
  intro Kc K hK t h nx k hh
  have h1 := argC_ok hoc _ t _ (hoc (.tmp x) t _ hh)
  have a0 : apure P (ρ t) o = none := by simp only [apure, ho]
  have a1 : aread P (ρ t) h o = none := by simp only [aread, ho]
  have a2 : anew P (ρ t) o = none := by simp only [anew, ho]
  have a3 : aeff P (ρ t) h nx o = none := by simp only [aeff, ho]
  unfold fnE at h1
  split at h1
  · rename_i g first caps e
    rw [fN_eq] at h1
    obtain ⟨v, h', nx', e1, e2⟩ := hK _ _ _ _ _ h1
    refine ⟨v, h', nx', ?_, e2⟩
    rw [sstep_call a0 a1 a2 a3 (f := 2 * g) (args := toList first ++ (args.toList.map (ρ t) ++ toList caps))]
    · exact e1
    · simp only [acallee, ho, e]
  · rename_i b e
    rw [fN_eq] at h1
    obtain ⟨v, h', nx', e1, e2⟩ := hK _ _ _ _ _ h1
    refine ⟨v, h', nx', ?_, e2⟩
    rw [sstep_call a0 a1 a2 a3 (f := 2 * b + 1) (args := args.toList.map (ρ t))]
    · exact e1
    · simp only [acallee, ho, e]
  · cases h1

def lenStr (P : Program) (ty : TypeId) (x : AV) : Option AV :=
  match P.underlying ty, x with
    | some .string, .str n _ => some (.int .i64 (.ofNat n))
    | some (.slice _), .sl _ _ n _ _ => some (.int .i64 (.ofNat n))
    | some (.slice _), .nils => some (.int .i64 0)
    | some (.map _ _), .nilm => some (.int .i64 0)
    | some (.array n _), _ => some (.int .i64 (.ofNat n))
    | _, _ => none

def isMapT (P : Program) (ty : TypeId) : Bool :=
  match P.underlying ty with
  | some (.map _ _) => true
  | _ => false

def extr (i : Nat) (x : AV) : Option AV :=
  match x with
  | .tup l => (toList l)[i]?
  | _ => none
def notV (x : AV) : Option AV :=
  match x with
  | .bool b => some (.bool (!b))
  | _ => none
def fldV (P : Program) (s : TypeId) (f : Nat) (x : AV) : Option AV :=
  match P.underlying s, x with
    | some (.struct fs), .agg n t => match fs[f]? with
      | some fl => apartA P fl.type n t fl.offset
      | none => none
    | _, _ => none
def pickV (c a b : AV) : Option AV :=
  match c with
    | .bool t => some (bif t then a else b)
    | _ => none

/-- An operation. -/
noncomputable def cop (P : Program) (ρ : Tr d → Operand → AV) (oc : Operand → GC d) (o : Oper) : XC d :=
  match o.op with
  | .move x => mvC (oc x)
  | .assign x => mvC (oc x)
  | .pick c a b => p3 (oc c) (oc a) (oc b) pickV
  | .nilCheck x => chkC (oc x) okNil
  | .binOp op ty x y _ => binC P op ty (oc x) (oc y)
  | .unOp .not _ x => p1 (oc x) notV
  | .convert src dst x => convC P ρ o src dst (oc x)
  | .fieldAddr s x f => faC P s f (oc x)
  | .field s x f => p1 (oc x) (fldV P s f)
  | .indexAddr ty x i => iaC P ty (oc x) (oc i)
  | .index ty x i => ixC P ty (oc x) (oc i)
  | .extract x i => p1 (oc x) (extr i)
  | .load ty x => loadC P ty (oc x)
  | .store ty x y => stC P ty (oc x) (oc y)
  | .alloc _ => newC P ρ o
  | .box _ _ => newC P ρ o
  | .buildSlice _ _ _ => newC P ρ o
  | .makeMap _ _ => newC P ρ o
  | .makeSlice _ _ _ => newC P ρ o
  | .call ⟨.value (.func f), args, _⟩ => bif bodied P f then callF f (argC oc args.toList) else slowC P ρ o
  | .call ⟨.value (.tmp x), args, _⟩ => callV (oc (.tmp x)) (argC oc args.toList)
  | .call ⟨.builtin .len, ⟨[x]⟩, ⟨[ty]⟩⟩ => bif isMapT P ty then slowC P ρ o else p1 (oc x) (lenStr P ty)
  | _ => slowC P ρ o

theorem cop_ok (hoc : OcOk oc ρ) (hof : ∀ t f, ρ t (.func f) = .fn f .lnil .lnil) : XcOk P ρ o (cop P ρ oc o) := by
  unfold cop
  split
  · rename_i x ho; exact mvC_ok hoc (fun t => by simp only [apure, ho])
  · rename_i x ho; exact mvC_ok hoc (fun t => by simp only [apure, ho])
  · rename_i c a b ho; exact p3_ok hoc (fun t => by simp only [apure, ho]; rfl)
  · rename_i x ho
    refine chkC_ok hoc (fun t hB => ?_)
    simp only [apure, ho]
    unfold okNil at hB
    split at hB <;> first | rfl | (rename_i e; rw [e]) | cases hB
  · rename_i op ty x y yt ho; exact binC_ok hoc ho
  · rename_i ty x ho; exact p1_ok hoc (fun t => by simp only [apure, ho]; rfl)
  · rename_i src dst x ho; exact convC_ok hoc ho
  · rename_i s x f ho; exact faC_ok hoc ho
  · rename_i s x f ho; exact p1_ok hoc (fun t => by simp only [apure, ho]; rfl)
  · rename_i ty x i ho; exact iaC_ok hoc ho
  · rename_i ty x i ho; exact ixC_ok hoc ho
  · rename_i x i ho; exact p1_ok hoc (fun t => by simp only [apure, ho]; rfl)
  · rename_i ty x ho; exact loadC_ok hoc ho
  · rename_i ty x y ho; exact stC_ok hoc ho
  · rename_i t ho; exact newC_ok (fun t => by simp only [apure, ho]) (fun t h => by simp only [aread, ho])
  · rename_i t x ho; exact newC_ok (fun t => by simp only [apure, ho]) (fun t h => by simp only [aread, ho])
  · rename_i t l ps ho; exact newC_ok (fun t => by simp only [apure, ho]) (fun t h => by simp only [aread, ho])
  · rename_i t x ho; exact newC_ok (fun t => by simp only [apure, ho]) (fun t h => by simp only [aread, ho])
  · rename_i t l c ho; exact newC_ok (fun t => by simp only [apure, ho]) (fun t h => by simp only [aread, ho])
  · rename_i f args tys ho
    cases hb : bodied P f with
    | true => exact callF_ok hoc hof hb ho
    | false => exact slowC_ok
  · rename_i x args tys ho; exact callV_ok hoc ho
  · rename_i x ty ho
    cases hm : isMapT P ty with
    | true => exact slowC_ok
    | false => exact p1_ok hoc (fun t => by simp only [apure, ho]; rfl)
  · exact slowC_ok

end
end I
end Go.Proofs.YtpaekplhcjleaaaGreatDoor

/- Regions by continuations. -/
namespace Go.Proofs.YtpaekplhcjleaaaGreatDoor
namespace I
set_option linter.unusedVariables false

structure LC (d : Nat) where
  run : KC → KF → Tr d → AV → Nat → (Tr d → AV → Nat → Bool) → Bool
def failL {d : Nat} : LC d := ⟨fun _ _ _ _ _ _ => false⟩

def guardE (c : AV) (want yes no : Bool) : Bool :=
  match c with
  | .bool b => bif b == want then yes else no
  | .bad => false
  | _ => no

/-- An operation with its guard, and what stands behind it. -/
noncomputable def opC (n d : Nat) (ops : Array Oper) (x : XC d) (o : Oper) (l : LC d) : LC d :=
  match o.guard with
  | none => @LC.rec d (fun _ => LC d) (fun g => @XC.rec d (fun _ => LC d) (fun r => @PC.rec d (fun _ => LC d) (fun p => ⟨fun Kc K t h nx k => r Kc t h nx fun v h nx => p t v fun t => g Kc K t h nx k⟩) (dstC n d o.dst)) x) l
  | some (j, want) => match (ops[j]?).bind (·.dst) with
    | none => failL
    | some i => bif Nat.blt i n then @LC.rec d (fun _ => LC d) (fun g => @XC.rec d (fun _ => LC d) (fun r => @PC.rec d (fun _ => LC d) (fun p => @GC.rec d (fun _ => LC d) (fun gg =>
        ⟨fun Kc K t h nx k => gg t fun c => guardE c want (r Kc t h nx fun v h nx => p t v fun t => g Kc K t h nx k) (p t .undef fun t => g Kc K t h nx k)⟩) (getC d i)) (dstC n d o.dst)) x) l
      else failL

section
variable {P : Program} {G n d : Nat}

/-- What it comes to: the operation is wanted and carried out, or it is not wanted. -/
theorem opC_ok {ρ : Tr d → Operand → AV} {ops : Array Oper} {x : XC d} {o : Oper} {l : LC d} (hx : XcOk P ρ o x) {Kc : KC} {K : KF} (hK : KcOk Kc K) {t : Tr d} {h : AV} {nx : Nat} {k : Tr d → AV → Nat → Bool}
    (hh : (opC n d ops x o l).run Kc K t h nx k = true) :
    (∃ v h' nx' t', wantA n d ops (av d t) o = some true ∧ sstep P K (ρ t) h nx o = some (v, h', nx') ∧ av d t' = putA n d (av d t) o.dst v ∧ l.run Kc K t' h' nx' k = true) ∨
    ∃ t', wantA n d ops (av d t) o = some false ∧ av d t' = putA n d (av d t) o.dst .undef ∧ l.run Kc K t' h nx k = true := by
  unfold opC at hh
  split at hh
  · rename_i hg
    obtain ⟨v, h', nx', e1, h1⟩ := hx Kc K hK t h nx _ hh
    obtain ⟨t', e2, h2⟩ := dstC_ok n d o.dst t v h1
    exact .inl ⟨v, h', nx', t', by simp only [wantA, hg], e1, e2, h2⟩
  · rename_i j want hg
    split at hh
    · exact Bool.noConfusion (show false = true from hh)
    · rename_i i hi
      cases hb : Nat.blt i n with
      | false => rw [hb] at hh; exact Bool.noConfusion (show false = true from hh)
      | true =>
        rw [hb] at hh
        have h1 := (getC_run d i t (fun c => guardE c want (x.run Kc t h nx fun v h nx => (dstC n d o.dst).run t v fun t => l.run Kc K t h nx k) ((dstC n d o.dst).run t .undef fun t => l.run Kc K t h nx k))).symm.trans hh
        simp only [wantA, hg, hi, hb, cond_true]
        unfold guardE at h1
        split at h1
        · rename_i b hc
          rw [hc]
          cases hw : (b == want) with
          | true =>
            rw [hw] at h1
            obtain ⟨v, h', nx', e1, h1⟩ := hx Kc K hK t h nx _ h1
            obtain ⟨t', e2, h2⟩ := dstC_ok n d o.dst t v h1
            exact .inl ⟨v, h', nx', t', by simp only [hw], e1, e2, h2⟩
          | false =>
            rw [hw] at h1
            obtain ⟨t', e2, h2⟩ := dstC_ok n d o.dst t .undef h1
            exact .inr ⟨t', by simp only [hw], e2, h2⟩
        · cases h1
        · rename_i hn1 hn2
          obtain ⟨t', e2, h2⟩ := dstC_ok n d o.dst t .undef h1
          refine .inr ⟨t', ?_, e2, h2⟩
          split
          · rename_i b hc; exact absurd hc (hn1 b)
          · rename_i hc; exact absurd hc hn2
          · rfl

/-- Operations in the text's order. -/
noncomputable def opsC (P : Program) (G n d : Nat) (ops : Array Oper) : List Oper → LC d
  | [] => ⟨fun _ _ t h nx k => k t h nx⟩
  | o :: l => opC n d ops (cop P (fun t => opndA G n d (av d t)) (ocA G n d) o) o (opsC P G n d ops l)

theorem opsC_ok {ops : Array Oper} {Kc : KC} {K : KF} (hK : KcOk Kc K) : ∀ (l : List Oper) {t : Tr d} {h : AV} {nx : Nat} {k : Tr d → AV → Nat → Bool}, (opsC P G n d ops l).run Kc K t h nx k = true →
    ∃ t' h' nx', opsA P G n d K ops l (av d t) h nx = some (av d t', h', nx') ∧ k t' h' nx' = true
  | [], t, h, nx, k, hh => ⟨t, h, nx, rfl, hh⟩
  | o :: l, t, h, nx, k, hh => by
    rcases opC_ok (P := P) (cop_ok (ocA_ok G n d) (fun _ _ => rfl)) hK hh with ⟨v, h', nx', t', e1, e2, e3, h1⟩ | ⟨t', e1, e3, h1⟩
    · obtain ⟨t2, h2, nx2, e4, h3⟩ := opsC_ok hK l h1
      refine ⟨t2, h2, nx2, ?_, h3⟩
      unfold opsA
      rw [e1]
      simp only
      unfold sstep at e2
      split at e2
      · rename_i v0 h0 n0 e5
        simp only [Option.some.injEq, Prod.mk.injEq] at e2
        obtain ⟨rfl, rfl, rfl⟩ := e2
        rw [e5]
        simp only
        rw [← e3]; exact e4
      · rename_i f args e5
        rw [e5]
        simp only
        rw [e2]
        simp only
        rw [← e3]; exact e4
      · cases e2
    · obtain ⟨t2, h2, nx2, e4, h3⟩ := opsC_ok hK l h1
      refine ⟨t2, h2, nx2, ?_, h3⟩
      unfold opsA
      rw [e1]
      simp only
      rw [← e3]; exact e4

/-! ### Regions that draw their order -/
def intT (P : Program) (t : TypeId) : Bool :=
  match P.underlying t with
  | some (.int _) => true
  | _ => false

/-- May it look at memory? -/
def isRd (P : Program) (o : Oper) : Bool :=
  match o.op with
  | .load _ _ | .slice _ _ _ _ _ | .lookup _ _ _ _ | .call _ => true
  | .convert _ dst _ => !(intT P dst)
  | _ => false

/-- May it make a block? -/
def isNw (P : Program) (o : Oper) : Bool :=
  match o.op with
  | .alloc _ | .box _ _ | .buildSlice _ _ _ | .makeMap _ _ | .makeSlice _ _ _ => true
  | .convert _ dst _ => !(intT P dst)
  | _ => false

theorem anew_none {ρ : Operand → AV} {o : Oper} (h : isNw P o = false) : anew P ρ o = none := by
  obtain ⟨dst, op, oty, pos, after, guard⟩ := o
  cases op <;> first | rfl | (exact Bool.noConfusion (show true = false from h)) | skip
  rename_i src dt x
  simp only [isNw, Bool.not_eq_false', intT] at h
  split at h
  · rename_i k hk
    simp only [anew, hk]
    split <;> first | rfl | (rename_i he; simp at he) | simp_all
  · cases h

theorem aread_none {ρ : Operand → AV} {h : AV} {o : Oper} (hr : isRd P o = false) : aread P ρ h o = none := by
  obtain ⟨dst, op, oty, pos, after, guard⟩ := o
  cases op <;> first | rfl | (exact Bool.noConfusion (show true = false from hr)) | skip
  rename_i src dt x
  simp only [isRd, Bool.not_eq_false', intT] at hr
  split at hr
  · rename_i k hk
    simp only [aread, hk]
    split <;> first | rfl | (rename_i he; simp at he) | simp_all
  · cases hr

theorem quiet_eff {ρ : Operand → AV} {h : AV} {nx : Nat} {o : Oper} (hq : quietK o = true) : aeff P ρ h nx o = none ∧ acallee ρ o = none := by
  obtain ⟨dst, op, oty, pos, after, guard⟩ := o
  cases op <;> first | exact ⟨rfl, rfl⟩ | (exact Bool.noConfusion (show false = true from hq)) | skip
  rename_i c
  obtain ⟨cal, args, tys⟩ := c
  cases cal <;> first | (exact Bool.noConfusion (show false = true from hq)) | skip
  rename_i b
  cases b <;> first | (exact Bool.noConfusion (show false = true from hq)) | exact ⟨rfl, rfl⟩

theorem loud_pure {ρ : Operand → AV} {h : AV} {o : Oper} (hq : quietK o = false) : apure P ρ o = none ∧ aread P ρ h o = none := by
  obtain ⟨dst, op, oty, pos, after, guard⟩ := o
  cases op <;> first | exact ⟨rfl, rfl⟩ | (exact Bool.noConfusion (show true = false from hq)) | skip
  rename_i c
  obtain ⟨cal, args, tys⟩ := c
  cases cal <;> first | exact ⟨rfl, rfl⟩ | skip
  rename_i b
  cases b <;> first | (exact Bool.noConfusion (show true = false from hq)) | exact ⟨rfl, rfl⟩

end
end I
end Go.Proofs.YtpaekplhcjleaaaGreatDoor

/- Regions that draw their order, by continuations. -/
namespace Go.Proofs.YtpaekplhcjleaaaGreatDoor
namespace I
set_option linter.unusedVariables false

/-- No block is made, and all that was read ahead of a change is read ahead of it in every order. -/
def simpleB (P : Program) (ops : Array Oper) : List Nat → List Nat → Bool
  | _, [] => true
  | rd, i :: is => match ops[i]? with
    | none => false
    | some o => !(isNw P o) && (bif quietK o then simpleB P ops (bif isRd P o then i :: rd else rd) is else rd.all (fun r => (ancN ops ops.size i).any (Nat.beq r)) && simpleB P ops rd is)

noncomputable def schC (P : Program) (G n d : Nat) (ops : Array Oper) : List Nat → LC d
  | [] => ⟨fun _ _ t h nx k => k t h nx⟩
  | i :: is => match ops[i]? with
    | none => failL
    | some o => opC n d ops (cop P (fun t => opndS G (o.looksAt ops) (snap n d (av d t) (o.looksAt ops))) (ocS G n d (o.looksAt ops)) o) o (schC P G n d ops is)

structure SimS (C : DC) (t : Tr C.d) (h : AV) (nx : Nat) (rd : List Nat) (s : D) : Prop where
  tm : s.tm = av C.d t
  h : s.h = h
  nx : s.nx = nx
  pt : ∀ k, cget C.pd s.pt k = .undef
  wt : ∀ k, k < C.ops.size → k ∉ rd → cget C.pd s.wt k = .undef

theorem merge_none {pd nx0 : Nat} {pt : AV} (hp : ∀ k, cget pd pt k = .undef) : ∀ (l : List Nat) (h : AV), merge pd nx0 l h pt = (h, pt)
  | [], h => rfl
  | j :: l, h => by
    simp only [merge, hp j, live, Bool.false_and, cond_false]
    exact merge_none hp l h

theorem chkW_none {C : DC} {h wt : AV} : ∀ {l : List Nat}, (∀ k ∈ l, cget C.pd wt k = .undef) → chkW C h wt l = true
  | [], _ => rfl
  | k :: l, hl => by
    simp only [chkW, hl k (List.mem_cons_self ..), Bool.true_and]
    exact chkW_none (fun j hj => hl j (List.mem_cons_of_mem _ hj))

section
variable {C : DC}

theorem step_quiet (hpd : C.ops.size ≤ 2 ^ C.pd) {t t' : Tr C.d} {h h' : AV} {nx nx' : Nat} {rd : List Nat} {s : D} (S : SimS C t h nx rd s) {i : Nat} {o : Oper} (hi : C.ops[i]? = some o) (hq : quietK o = true) (hnw : isNw C.P o = false)
    (hw : wantA C.n C.d C.ops (av C.d t) o = some true) {v : AV} (hs : sstep C.P C.K (opndS C.G (o.looksAt C.ops) (snap C.n C.d (av C.d t) (o.looksAt C.ops))) h nx o = some (v, h', nx')) (ht : av C.d t' = putA C.n C.d (av C.d t) o.dst v) :
    ∃ s', dstep C s i o = some s' ∧ SimS C t' h' nx' (bif isRd C.P o then i :: rd else rd) s' := by
  have hin : i < C.ops.size := (Array.getElem?_eq_some_iff.1 hi).1
  obtain ⟨q1, q2⟩ := quiet_eff (P := C.P) (ρ := opndS C.G (o.looksAt C.ops) (snap C.n C.d (av C.d t) (o.looksAt C.ops))) (h := h) (nx := nx) hq
  have q3 := anew_none (P := C.P) (ρ := opndS C.G (o.looksAt C.ops) (snap C.n C.d (av C.d t) (o.looksAt C.ops))) hnw
  unfold sstep astep at hs
  cases ha : apure C.P (opndS C.G (o.looksAt C.ops) (snap C.n C.d (av C.d t) (o.looksAt C.ops))) o with
  | some v0 =>
    simp only [ha, Option.some.injEq, Prod.mk.injEq] at hs
    obtain ⟨rfl, rfl, rfl⟩ := hs
    refine ⟨QE.app C ⟨v0, none, none⟩ s i o, ?_, ?_⟩
    · simp only [dstep, S.tm, hw, hq, cond_true, quiet1, qeff, ha]
    · refine ⟨by simp only [QE.app, S.tm]; exact ht.symm, S.h, S.nx, S.pt, fun k hk hn => S.wt k hk (fun hm => hn ?_)⟩
      cases isRd C.P o
      · exact hm
      · exact List.mem_cons_of_mem _ hm
  | none =>
    cases hr : aread C.P (opndS C.G (o.looksAt C.ops) (snap C.n C.d (av C.d t) (o.looksAt C.ops))) h o with
    | some v0 =>
      simp only [ha, hr, Option.some.injEq, Prod.mk.injEq] at hs
      obtain ⟨rfl, rfl, rfl⟩ := hs
      have hrd : isRd C.P o = true := by
        cases hx : isRd C.P o with
        | true => rfl
        | false => rw [aread_none hx] at hr; cases hr
      refine ⟨QE.app C ⟨v0, some (.lcons (ofList (snap C.n C.d (av C.d t) (o.looksAt C.ops))) v0), none⟩ s i o, ?_, ?_⟩
      · simp only [dstep, S.tm, hw, hq, cond_true, quiet1, qeff, ha, q3, S.h, hr]
      · refine ⟨by simp only [QE.app, S.tm]; exact ht.symm, S.h, S.nx, S.pt, fun k hk hn => ?_⟩
        rw [hrd] at hn
        simp only [cond_true, List.mem_cons, not_or] at hn
        simp only [QE.app, optput]
        rw [cget_cput C.pd s.wt i k _ (by omega) (by omega), if_neg hn.1]
        exact S.wt k hk hn.2
    | none => simp only [ha, hr, q3, q1, q2] at hs; cases hs

theorem step_loud {t t' : Tr C.d} {h h' : AV} {nx nx' : Nat} {rd : List Nat} {s : D} (S : SimS C t h nx rd s) {i : Nat} {o : Oper} (hi : C.ops[i]? = some o) (hq : quietK o = false) (hnw : isNw C.P o = false)
    (hrd : rd.all (fun r => (ancN C.ops C.ops.size i).any (Nat.beq r)) = true) (hw : wantA C.n C.d C.ops (av C.d t) o = some true) {v : AV}
    (hs : sstep C.P C.K (opndS C.G (o.looksAt C.ops) (snap C.n C.d (av C.d t) (o.looksAt C.ops))) h nx o = some (v, h', nx')) (ht : av C.d t' = putA C.n C.d (av C.d t) o.dst v) :
    ∃ s', dstep C s i o = some s' ∧ SimS C t' h' nx' rd s' := by
  obtain ⟨q1, q2⟩ := loud_pure (P := C.P) (ρ := opndS C.G (o.looksAt C.ops) (snap C.n C.d (av C.d t) (o.looksAt C.ops))) (h := h) hq
  have q3 := anew_none (P := C.P) (ρ := opndS C.G (o.looksAt C.ops) (snap C.n C.d (av C.d t) (o.looksAt C.ops))) hnw
  have hck : chkW C h' s.wt (others C i) = true := chkW_none (fun k hk => by
    obtain ⟨k1, k2⟩ := mem_others.1 hk
    refine S.wt k k1 (fun hm => k2 ?_)
    have := List.all_eq_true.1 hrd k hm
    obtain ⟨x, hx, hb⟩ := List.any_eq_true.1 this
    have : k = x := Nat.eq_of_beq_eq_true hb
    rw [this]; exact hx)
  refine ⟨{ tm := putA C.n C.d s.tm o.dst v, h := h', nx := nx', pt := s.pt, wt := s.wt }, ?_, ⟨by simp only [S.tm]; exact ht.symm, rfl, rfl, S.pt, S.wt⟩⟩
  unfold sstep astep at hs
  simp only [q1, q2, q3] at hs
  cases he : aeff C.P (opndS C.G (o.looksAt C.ops) (snap C.n C.d (av C.d t) (o.looksAt C.ops))) h nx o with
  | some r =>
    obtain ⟨a, b, c⟩ := r
    simp only [he, Option.some.injEq, Prod.mk.injEq] at hs
    obtain ⟨rfl, rfl, rfl⟩ := hs
    simp only [dstep, S.tm, hw, hq, cond_false, eff1, merge_none S.pt, S.h, S.nx, he, hck, cond_true]
  | none =>
    simp only [he] at hs
    cases hc : acallee (opndS C.G (o.looksAt C.ops) (snap C.n C.d (av C.d t) (o.looksAt C.ops))) o with
    | some r =>
      obtain ⟨a, b⟩ := r
      simp only [hc] at hs
      simp only [dstep, S.tm, hw, hq, cond_false, eff1, merge_none S.pt, S.h, S.nx, he, hc, hs, hck, cond_true]
    | none => simp only [hc] at hs; cases hs

theorem schC_ok (hpd : C.ops.size ≤ 2 ^ C.pd) {Kc : KC} (hK : KcOk Kc C.K) : ∀ (is : List Nat) {t : Tr C.d} {h : AV} {nx : Nat} {rd : List Nat} {s : D} {k : Tr C.d → AV → Nat → Bool}, simpleB C.P C.ops rd is = true → SimS C t h nx rd s →
    (schC C.P C.G C.n C.d C.ops is).run Kc C.K t h nx k = true → ∃ t' h' nx' rd' s', runS C is s = some s' ∧ SimS C t' h' nx' rd' s' ∧ k t' h' nx' = true
  | [], t, h, nx, rd, s, k, _, S, hh => ⟨t, h, nx, rd, s, rfl, S, hh⟩
  | i :: is, t, h, nx, rd, s, k, hb, S, hh => by
    unfold simpleB at hb
    unfold schC at hh
    unfold runS
    cases hi : C.ops[i]? with
    | none => rw [hi] at hb; cases hb
    | some o =>
      rw [hi] at hb hh
      simp only at hb hh ⊢
      simp only [Bool.and_eq_true, Bool.not_eq_true'] at hb
      have hnw := hb.1
      rcases opC_ok (P := C.P) (cop_ok (ocS_ok C.G C.n C.d (o.looksAt C.ops)) (fun _ _ => rfl)) hK hh with ⟨v, h', nx', t', e1, e2, e3, h1⟩ | ⟨t', e1, e3, h1⟩
      · cases hq : quietK o with
        | true =>
          have hb2 := hb.2
          rw [hq] at hb2
          obtain ⟨s', d1, S'⟩ := step_quiet hpd S hi hq hnw e1 e2 e3
          rw [d1]
          simp only
          exact schC_ok hpd hK is hb2 S' h1
        | false =>
          have hb2 := hb.2
          rw [hq] at hb2
          simp only [cond_false, Bool.and_eq_true] at hb2
          obtain ⟨s', d1, S'⟩ := step_loud S hi hq hnw hb2.1 e1 e2 e3
          rw [d1]
          simp only
          exact schC_ok hpd hK is hb2.2 S' h1
      · have d1 : dstep C s i o = some (put1 C s o .undef) := by simp only [dstep, S.tm, e1]
        rw [d1]
        simp only
        cases hq : quietK o with
        | true =>
          have hb2 := hb.2
          rw [hq] at hb2
          refine schC_ok hpd hK is hb2 ⟨by simp only [put1, S.tm]; exact e3.symm, S.h, S.nx, S.pt, fun k hk hn => S.wt k hk (fun hm => hn ?_)⟩ h1
          cases isRd C.P o
          · exact hm
          · exact List.mem_cons_of_mem _ hm
        | false =>
          have hb2 := hb.2
          rw [hq] at hb2
          simp only [cond_false, Bool.and_eq_true] at hb2
          exact schC_ok hpd hK is hb2.2 ⟨by simp only [put1, S.tm]; exact e3.symm, S.h, S.nx, S.pt, S.wt⟩ h1
end

/-- As the interpreter does it. -/
noncomputable def slowR (P : Program) (G n d : Nat) (ops : Array Oper) : LC d := ⟨fun Kc K t h nx k => match regA P G n d K ops (av d t) h nx with
  | some (tm, h', nx') => taK d tm fun t' => fN nx' fun nx' => k t' h' nx'
  | none => false⟩

noncomputable def regC (P : Program) (G n d : Nat) (ops : Array Oper) : LC d :=
  bif P.follows .mixedOrders && edgesOk ops then
    match schedF ops with
    | some is => bif simpleB P ops [] is then fN ops.size fun sz => @LC.rec d (fun _ => LC d) (fun f => ⟨fun Kc K t h nx k => bif Nat.ble (Nat.add nx sz) (2 ^ HD) then fN (Nat.add nx sz) fun nx => f Kc K t h nx k else false⟩) (schC P G n d ops is)
      else slowR P G n d ops
    | none => slowR P G n d ops
  else slowR P G n d ops

section
variable {P : Program} {G n d : Nat}

theorem slowR_ok {ops : Array Oper} {Kc : KC} {K : KF} {t : Tr d} {h : AV} {nx : Nat} {k : Tr d → AV → Nat → Bool} (hh : (slowR P G n d ops).run Kc K t h nx k = true) :
    ∃ t' h' nx', regA P G n d K ops (av d t) h nx = some (av d t', h', nx') ∧ k t' h' nx' = true := by
  unfold slowR at hh
  dsimp only at hh
  split at hh
  · rename_i tm h' nx' e
    obtain ⟨t', rfl, h1⟩ := taK_ok hh
    rw [fN_eq] at h1
    exact ⟨t', h', nx', e, h1⟩
  · cases hh

theorem regC_ok {ops : Array Oper} {Kc : KC} {K : KF} (hK : KcOk Kc K) {t : Tr d} {h : AV} {nx : Nat} {k : Tr d → AV → Nat → Bool} (hh : (regC P G n d ops).run Kc K t h nx k = true) :
    ∃ t' h' nx', regA P G n d K ops (av d t) h nx = some (av d t', h', nx') ∧ k t' h' nx' = true := by
  unfold regC at hh
  cases hb : (P.follows .mixedOrders && edgesOk ops) with
  | false => rw [hb] at hh; exact slowR_ok hh
  | true =>
    rw [hb] at hh
    simp only [cond_true] at hh
    split at hh
    · rename_i is hs
      cases hsb : simpleB P ops [] is with
      | false => rw [hsb] at hh; exact slowR_ok hh
      | true =>
        rw [hsb] at hh
        simp only [cond_true] at hh
        rw [fN_eq] at hh
        obtain ⟨e1, h1⟩ := cond_ok hh
        have h2 := (fN_eq (Nat.add nx ops.size) fun nx => (schC P G n d ops is).run Kc K t h nx k).symm.trans h1
        have e1' : Nat.ble (nx + ops.size) (2 ^ HD) = true := e1
        let C : DC := ⟨P, G, n, d, K, ops, nx, lg ops.size⟩
        have hpd : C.ops.size ≤ 2 ^ C.pd := lg_le _
        have S0 : SimS C t h (nx + ops.size) [] ⟨av d t, h, nx + ops.size, unid (lg ops.size) .undef, unid (lg ops.size) .undef⟩ :=
          ⟨rfl, rfl, rfl, fun k => cget_unid _ _ _, fun k _ _ => cget_unid _ _ _⟩
        obtain ⟨t', h', nx', rd', s', r1, S', h3⟩ := schC_ok (C := C) hpd hK is hsb S0 h2
        refine ⟨t', h', nx', ?_, h3⟩
        simp only [Bool.and_eq_true] at hb
        unfold regA
        rw [hb.1, hb.2, e1']
        simp only [Bool.and_self, cond_true]
        rw [hs]
        simp only
        rw [show runS ⟨P, G, n, d, K, ops, nx, lg ops.size⟩ is ⟨av d t, h, nx + ops.size, unid (lg ops.size) .undef, unid (lg ops.size) .undef⟩ = some s' from r1]
        simp only
        have hm : merge (lg ops.size) nx (List.range ops.size) s'.h s'.pt = (s'.h, s'.pt) := merge_none S'.pt _ _
        rw [hm, S'.tm, S'.h, S'.nx]
    · exact slowR_ok hh

end
end I
end Go.Proofs.YtpaekplhcjleaaaGreatDoor

/- Code and calls by continuations. -/
namespace Go.Proofs.YtpaekplhcjleaaaGreatDoor
namespace I
set_option linter.unusedVariables false

abbrev CK (d : Nat) := Ex → List Nat → Tr d → AV → Nat → Bool
structure CC (d : Nat) where
  run : KC → KF → Nat → List Nat → Tr d → AV → Nat → CK d → Bool
def failCC {d : Nat} : CC d := ⟨fun _ _ _ _ _ _ _ _ => false⟩

noncomputable def exE (e : Ex) (a : Bool) (b : Nat → Bool) (c : Bool) : Bool := @Ex.rec (fun _ => Bool) a b c e

noncomputable def loopK {d : Nat} (f : List Nat → Tr d → AV → Nat → CK d → Bool) (k : CK d) (N : Nat) : List Nat → Tr d → AV → Nat → Bool :=
  @Nat.rec (fun _ => List Nat → Tr d → AV → Nat → Bool) (fun _ _ _ _ => false) (fun _ ih dl t h nx => f dl t h nx fun e dl t h nx => exE e (ih dl t h nx) (fun id => k (.exit id) dl t h nx) (k .ret dl t h nx)) N

/-- A loop over a function is entered. -/
noncomputable def entE (n rd : Nat) (ps : List Nat) (assign body : Code) (tm h : AV) (nx : Nat) (c : Nat → List Nat → AV → Nat → Bool) : Bool :=
  @Nat.rec (fun _ => Bool) (bif Nat.blt (Nat.succ nx) (2 ^ HD) then cputK HD h nx .df fun h => fN (Nat.succ nx) fun b => cputK HD h b (.lp n ps assign body tm 0 0 nx) fun h => fN (Nat.succ b) fun nx' => c b [nx] h nx' else false)
    (fun b _ => cgetK HD h b fun x => lpE x fun _ _ _ _ _ _ _ db => bif Nat.blt nx (2 ^ HD) then cputK HD h nx (.lp n ps assign body tm 0 0 db) fun h => fN (Nat.succ nx) fun nx' => c nx [] h nx' else false) rd

theorem entE_ok {n rd : Nat} {ps : List Nat} {assign body : Code} {tm h : AV} {nx : Nat} {c : Nat → List Nat → AV → Nat → Bool} (hh : entE n rd ps assign body tm h nx c = true) :
    ∃ b dl h' nx', enterA n rd ps assign body tm h nx = some (b, dl, h', nx') ∧ c b dl h' nx' = true := by
  unfold entE at hh
  cases rd with
  | zero =>
    obtain ⟨e1, h1⟩ := cond_ok hh
    have h2 := cputK_ok h1
    have h3 := (fN_eq (Nat.succ nx) _).symm.trans h2
    have h4 := cputK_ok h3
    have h5 := (fN_eq (Nat.succ (Nat.succ nx)) fun nx' => c (Nat.succ nx) [nx] _ nx').symm.trans h4
    have e1' : Nat.blt (nx + 1) (2 ^ HD) = true := e1
    exact ⟨nx + 1, [nx], _, nx + 2, by simp only [enterA, e1', cond_true], h5⟩
  | succ b =>
    obtain ⟨n', ps', as', bo', tm', st', pe', db, e1, h1⟩ := lpE_ok (cgetK_ok hh)
    obtain ⟨e2, h2⟩ := cond_ok h1
    have h3 := cputK_ok h2
    have h4 := (fN_eq (Nat.succ nx) fun nx' => c nx [] _ nx').symm.trans h3
    exact ⟨nx, [], _, nx + 1, by simp only [enterA, e1, e2, cond_true], h4⟩

noncomputable def rfE (v : AV) (c : Nat → AV → AV → Bool) : Bool :=
  match v with
  | .fn f first caps => c f first caps
  | _ => false

noncomputable def compC (P : Program) (G n d N : Nat) : Code → CC d
  | .skip => ⟨fun _ _ _ dl t h nx k => k .normal dl t h nx⟩
  | .label _ => ⟨fun _ _ _ dl t h nx k => k .normal dl t h nx⟩
  | .region _ ops draw => @LC.rec d (fun _ => CC d) (fun f => ⟨fun Kc K rd dl t h nx k => f Kc K t h nx fun t h nx => k .normal dl t h nx⟩) (bif draw then regC P G n d ops else opsC P G n d ops ops.toList)
  | .seq a b => @CC.rec d (fun _ => CC d) (fun f => @CC.rec d (fun _ => CC d) (fun g => ⟨fun Kc K rd dl t h nx k => f Kc K rd dl t h nx fun e dl t h nx => exE e (g Kc K rd dl t h nx k) (fun id => k (.exit id) dl t h nx) (k .ret dl t h nx)⟩) (compC P G n d N b)) (compC P G n d N a)
  | .cond c a b => @CC.rec d (fun _ => CC d) (fun f => @CC.rec d (fun _ => CC d) (fun g => @GC.rec d (fun _ => CC d) (fun gc => ⟨fun Kc K rd dl t h nx k => gc t fun v => boolE v fun b => @Bool.rec (fun _ => Bool) (g Kc K rd dl t h nx k) (f Kc K rd dl t h nx k) b⟩) (ocA G n d c)) (compC P G n d N b)) (compC P G n d N a)
  | .block id b => @CC.rec d (fun _ => CC d) (fun f => ⟨fun Kc K rd dl t h nx k => f Kc K rd dl t h nx fun e dl t h nx => exE e (k .normal dl t h nx) (fun j => bif Nat.beq j id then k .normal dl t h nx else k (.exit j) dl t h nx) (k .ret dl t h nx)⟩) (compC P G n d N b)
  | .loop b => @CC.rec d (fun _ => CC d) (fun f => ⟨fun Kc K rd dl t h nx k => loopK (f Kc K rd) k N dl t h nx⟩) (compC P G n d N b)
  | .exit id => ⟨fun _ _ _ dl t h nx k => k (.exit id) dl t h nx⟩
  | .ret => ⟨fun _ _ _ dl t h nx k => k .ret dl t h nx⟩
  | .rangeFunc g ps assign body => @GC.rec d (fun _ => CC d) (fun gc => ⟨fun Kc K rd dl t h nx k => gc t fun v => rfE v fun f first caps => entE n rd ps.toList assign body (av d t) h nx fun b dl' h1 nx1 =>
      Kc (2 * f) (toList first ++ (.yld b :: toList caps)) h1 nx1 fun _ h2 nx2 => cgetK HD h2 b fun x => lpE x fun _ _ _ _ _ st' pend _ => bif Nat.beq st' 1 then false else cputK HD h2 b .dead fun h3 => k (exOf pend) (dl' ++ dl) t h3 nx2⟩) (ocA G n d g)
  | _ => failCC

section
variable {P : Program} {G n d N : Nat} {Kc : KC} {K : KF}

theorem exE_ok {e : Ex} {a : Bool} {b : Nat → Bool} {c : Bool} (h : exE e a b c = true) : (e = .normal ∧ a = true) ∨ (∃ id, e = .exit id ∧ b id = true) ∨ (e = .ret ∧ c = true) := by
  cases e with
  | normal => exact .inl ⟨rfl, h⟩
  | exit id => exact .inr (.inl ⟨id, rfl, h⟩)
  | ret => exact .inr (.inr ⟨rfl, h⟩)

theorem loopK_ok {f : List Nat → Tr d → AV → Nat → CK d → Bool} {g : SD → Option (Ex × SD)}
    (hf : ∀ dl t h nx k, f dl t h nx k = true → ∃ e dl' t' h' nx', g (dl, av d t, h, nx) = some (e, dl', av d t', h', nx') ∧ k e dl' t' h' nx' = true) {k : CK d} :
    ∀ (N : Nat) (dl : List Nat) (t : Tr d) (h : AV) (nx : Nat), loopK f k N dl t h nx = true → ∃ e dl' t' h' nx', loopI g N (dl, av d t, h, nx) = some (e, dl', av d t', h', nx') ∧ k e dl' t' h' nx' = true
  | 0, dl, t, h, nx, hh => Bool.noConfusion (show false = true from hh)
  | N + 1, dl, t, h, nx, hh => by
    obtain ⟨e, dl', t', h', nx', e1, h1⟩ := hf dl t h nx _ hh
    rcases exE_ok h1 with ⟨rfl, h2⟩ | ⟨id, rfl, h2⟩ | ⟨rfl, h2⟩
    · obtain ⟨e2, dl2, t2, h2, nx2, e3, h3⟩ := loopK_ok hf N dl' t' h' nx' h2
      exact ⟨e2, dl2, t2, h2, nx2, by simp only [loopI, e1]; exact e3, h3⟩
    · exact ⟨_, dl', t', h', nx', by simp only [loopI, e1], h2⟩
    · exact ⟨_, dl', t', h', nx', by simp only [loopI, e1], h2⟩

theorem compC_ok (hK : KcOk Kc K) (rd : Nat) : ∀ (c : Code) (dl : List Nat) (t : Tr d) (h : AV) (nx : Nat) (k : CK d), (compC P G n d N c).run Kc K rd dl t h nx k = true →
    ∃ e dl' t' h' nx', execC P G n d K N rd c (dl, av d t, h, nx) = some (e, dl', av d t', h', nx') ∧ k e dl' t' h' nx' = true := by
  intro c
  induction c with
  | skip => intro dl t h nx k hh; exact ⟨_, dl, t, h, nx, rfl, hh⟩
  | label id => intro dl t h nx k hh; exact ⟨_, dl, t, h, nx, rfl, hh⟩
  | region id ops draw =>
    intro dl t h nx k hh
    cases draw with
    | true =>
      obtain ⟨t', h', nx', e1, h1⟩ := regC_ok hK (show (regC P G n d ops).run Kc K t h nx _ = true from hh)
      exact ⟨_, dl, t', h', nx', by simp only [execC, cond_true, e1], h1⟩
    | false =>
      obtain ⟨t', h', nx', e1, h1⟩ := opsC_ok hK ops.toList (show (opsC P G n d ops ops.toList).run Kc K t h nx _ = true from hh)
      exact ⟨_, dl, t', h', nx', by simp only [execC, cond_false, e1], h1⟩
  | seq a b iha ihb =>
    intro dl t h nx k hh
    obtain ⟨e, dl', t', h', nx', e1, h1⟩ := iha dl t h nx _ hh
    rcases exE_ok h1 with ⟨rfl, h2⟩ | ⟨id, rfl, h2⟩ | ⟨rfl, h2⟩
    · obtain ⟨e2, dl2, t2, h2, nx2, e3, h3⟩ := ihb dl' t' h' nx' k h2
      exact ⟨e2, dl2, t2, h2, nx2, by simp only [execC, e1]; exact e3, h3⟩
    · exact ⟨_, dl', t', h', nx', by simp only [execC, e1], h2⟩
    · exact ⟨_, dl', t', h', nx', by simp only [execC, e1], h2⟩
  | cond c a b iha ihb =>
    intro dl t h nx k hh
    obtain ⟨b', e1, h1⟩ := boolE_ok (ocA_ok G n d c t _ hh)
    have e1 : opndA G n d (av d t) c = .bool b' := e1
    cases b' with
    | true =>
      obtain ⟨e2, dl2, t2, h2, nx2, e3, h3⟩ := iha dl t h nx k h1
      exact ⟨e2, dl2, t2, h2, nx2, by simp only [execC, e1]; exact e3, h3⟩
    | false =>
      obtain ⟨e2, dl2, t2, h2, nx2, e3, h3⟩ := ihb dl t h nx k h1
      exact ⟨e2, dl2, t2, h2, nx2, by simp only [execC, e1]; exact e3, h3⟩
  | block id b ih =>
    intro dl t h nx k hh
    obtain ⟨e, dl', t', h', nx', e1, h1⟩ := ih dl t h nx _ hh
    rcases exE_ok h1 with ⟨rfl, h2⟩ | ⟨j, rfl, h2⟩ | ⟨rfl, h2⟩
    · exact ⟨_, dl', t', h', nx', by simp only [execC, e1], h2⟩
    · cases hb : Nat.beq j id with
      | true => rw [hb] at h2; exact ⟨_, dl', t', h', nx', by simp only [execC, e1, hb, cond_true], h2⟩
      | false => rw [hb] at h2; exact ⟨_, dl', t', h', nx', by simp only [execC, e1, hb, cond_false], h2⟩
    · exact ⟨_, dl', t', h', nx', by simp only [execC, e1], h2⟩
  | loop b ih =>
    intro dl t h nx k hh
    obtain ⟨e, dl', t', h', nx', e1, h1⟩ := loopK_ok (f := (compC P G n d N b).run Kc K rd) (g := fun s => execC P G n d K N rd b s) (fun dl t h nx k hk => ih dl t h nx k hk) N dl t h nx hh
    exact ⟨e, dl', t', h', nx', e1, h1⟩
  | exit id => intro dl t h nx k hh; exact ⟨_, dl, t, h, nx, rfl, hh⟩
  | ret => intro dl t h nx k hh; exact ⟨_, dl, t, h, nx, rfl, hh⟩
  | rangeFunc g ps assign body _ _ =>
    intro dl t h nx k hh
    have h1 := ocA_ok G n d g t _ hh
    unfold rfE at h1
    split at h1
    · rename_i f first caps e0
      obtain ⟨b, dl', h', nx', e1, h2⟩ := entE_ok h1
      obtain ⟨v, h2', nx2, e2, h3⟩ := hK _ _ _ _ _ h2
      obtain ⟨n', ps', as', bo', tm', st', pe', db', e3, h4⟩ := lpE_ok (cgetK_ok h3)
      obtain ⟨e4, h5⟩ := cond_not h4
      have h6 := cputK_ok h5
      exact ⟨_, _, t, _, nx2, by simp only [execC, e0, e1, e2, e3, e4, cond_false], h6⟩
    · cases h1
  | _ => intro dl t h nx k hh; exact Bool.noConfusion (show false = true from hh)

end

/-! ### Calls -/
theorem av_full : ∀ (d : Nat), av d (fullT d) = fullA d
  | 0 => rfl
  | 1 => rfl
  | d + 2 => by
    show AV.node (.node (av d (fullT d)) (av d (fullT d))) (.node (av d (fullT d)) (av d (fullT d))) = _
    rw [av_full d]; rfl

noncomputable def argsK (d : Nat) : List AV → Nat → Tr d → (Tr d → Bool) → Bool
  | [], _, t, k => k t
  | a :: l, i, t, k => @PC.rec d (fun _ => Bool) (fun p => p t a fun t => argsK d l (i + 1) t k) (putC d i)
theorem argsK_ok {d : Nat} : ∀ (l : List AV) (i : Nat) (t : Tr d) (k : Tr d → Bool), argsK d l i t k = true → ∃ t', av d t' = argsA d l i (av d t) ∧ k t' = true
  | [], i, t, k, h => ⟨t, rfl, h⟩
  | a :: l, i, t, k, h => by
    obtain ⟨t1, e1, e2⟩ := putC_ok d i t a (fun t => argsK d l (i + 1) t k)
    have h1 : (putC d i).run t a (fun t => argsK d l (i + 1) t k) = true := h
    rw [e2] at h1
    obtain ⟨t', e3, h3⟩ := argsK_ok l (i + 1) t1 k h1
    exact ⟨t', by rw [e3, e1]; rfl, h3⟩

structure RC (d : Nat) where
  run : Tr d → AV → (List AV → Bool) → Bool
noncomputable def resC (P : Program) (n d : Nat) : List ResultVar → RC d
  | [] => ⟨fun _ _ k => k []⟩
  | .tmp i :: l => @RC.rec d (fun _ => RC d) (fun r => @GC.rec d (fun _ => RC d) (fun g => ⟨fun t h k => g t fun v => r t h fun vs => k (v :: vs)⟩) (ocA 0 n d (.tmp i))) (resC P n d l)
  | .cell i ty :: l => @RC.rec d (fun _ => RC d) (fun r => @GC.rec d (fun _ => RC d) (fun g => ⟨fun t h k => g t fun v => ptrE v fun b off => cgetK HD h b fun c => cellsE c fun _ m _ u => optE (apartA P ty m u off) fun v => r t h fun vs => k (v :: vs)⟩) (ocA 0 n d (.tmp i))) (resC P n d l)
theorem resC_ok {P : Program} {n d : Nat} : ∀ (l : List ResultVar) (t : Tr d) (h : AV) (k : List AV → Bool), (resC P n d l).run t h k = true → ∃ vs, resA P n d (av d t) h l = some vs ∧ k vs = true
  | [], t, h, k, hh => ⟨[], rfl, hh⟩
  | .tmp i :: l, t, h, k, hh => by
    have h1 := ocA_ok 0 n d (.tmp i) t _ hh
    obtain ⟨vs, e1, h2⟩ := resC_ok l t h _ h1
    exact ⟨_, by simp only [resA, e1]; rfl, h2⟩
  | .cell i ty :: l, t, h, k, hh => by
    have h1 := ocA_ok 0 n d (.tmp i) t _ hh
    obtain ⟨b, off, e0, h2⟩ := ptrE_ok h1
    obtain ⟨ety, m, ro, u, e1, h3⟩ := cellsE_ok (cgetK_ok h2)
    obtain ⟨v, e2, h4⟩ := optE_ok h3
    obtain ⟨vs, e3, h5⟩ := resC_ok l t h _ h4
    have e0 : (bif Nat.blt i n then cget d (av d t) i else .undef) = .ptr b off := e0
    exact ⟨_, by simp only [resA, e0, e1, e2, e3], h5⟩

noncomputable def outE (vs : List AV) (k : AV → Bool) : Bool :=
  match vs with
  | [v] => k v
  | vs => k (.tup (ofList vs))
theorem outE_ok {vs : List AV} {k : AV → Bool} (h : outE vs k = true) : k (resOfA vs) = true := by
  unfold outE at h
  unfold resOfA
  split at h
  · exact h
  · rename_i hn
    split
    · rename_i v; exact absurd rfl (hn v)
    · exact h

structure FC where
  run : KC → KF → List AV → AV → Nat → VK → Bool
def failF : FC := ⟨fun _ _ _ _ _ _ => false⟩

noncomputable def takeE (r : Option AV) (k : AV → Bool) : Bool := @Option.rec AV (fun _ => Bool) false k r
theorem takeE_ok {r : Option AV} {k : AV → Bool} (h : takeE r k = true) : ∃ v, r = some v ∧ k v = true := by
  cases r with
  | none => exact Bool.noConfusion (show false = true from h)
  | some v => exact ⟨v, rfl, h⟩

noncomputable def compB (P : Program) (G N n d : Nat) (c : Code) (rs : List ResultVar) : FC :=
  @CC.rec d (fun _ => FC) (fun f => @RC.rec d (fun _ => FC) (fun r => ⟨fun Kc K args h nx k => bif Nat.ble args.length n then argsK d args 0 (fullT d) fun t => f Kc K 0 [] t h nx fun e dl t h nx =>
    exE e (takeE (takeA dl h) fun h => r t h fun vs => outE vs fun v => k v h nx) (fun _ => false) (takeE (takeA dl h) fun h => r t h fun vs => outE vs fun v => k v h nx) else false⟩) (resC P n d rs)) (compC P G n d N c)

noncomputable def compF (P : Program) (G N f : Nat) : FC :=
  match P.funcs[f]? with
  | none => failF
  | some fn => bif fn.name == "runtime.NumGoroutine" then failF else match fn.body with
    | none => failF
    | some c => fN fn.ntmps fun n => fN (lg n) fun d => compB P G N n d c fn.results.toList

noncomputable def putPsK (n d : Nat) : List Nat → List AV → Tr d → (Tr d → Bool) → Bool
  | i :: is, a :: as, t, k => @PC.rec d (fun _ => Bool) (fun p => p t a fun t => putPsK n d is as t k) (dstC n d (some i))
  | [], _, t, k => k t
  | _ :: _, [], t, k => k t
theorem putPsK_ok {n d : Nat} : ∀ (is : List Nat) (as : List AV) (t : Tr d) (k : Tr d → Bool), putPsK n d is as t k = true → ∃ t', av d t' = putPs n d is as (av d t) ∧ k t' = true
  | i :: is, a :: as, t, k, h => by
    obtain ⟨t1, e1, h1⟩ := dstC_ok n d (some i) t a (k := fun t => putPsK n d is as t k) h
    obtain ⟨t', e3, h3⟩ := putPsK_ok is as t1 k h1
    exact ⟨t', by rw [e3, e1]; rfl, h3⟩
  | [], as, t, k, h => ⟨t, by cases as <;> rfl, h⟩
  | _ :: _, [], t, k, h => ⟨t, rfl, h⟩

/-- A round of a loop over a function. -/
noncomputable def roundC (P : Program) (G N : Nat) (Kc : KC) (K : KF) (b : Nat) (args : List AV) (h : AV) (nx : Nat) (k : VK) : Bool :=
  cgetK HD h b fun c => lpE c fun n ps assign body tm st _ _ => bif Nat.beq st 0 && Nat.beq args.length ps.length then
    taK (lg n) tm fun t => putPsK n (lg n) ps args t fun t => @CC.rec (lg n) (fun _ => Bool) (fun fa => fa Kc K (b + 1) [] t h nx fun e dl t1 h1 nx1 => exE e (bif dl.isEmpty then
      cgetK HD h1 b fun c1 => lpE c1 fun n' ps' as' bo' tm' st' pe' db' => bif Nat.beq st' 0 then cputK HD h1 b (.lp n' ps' as' bo' tm' 1 pe' db') fun h1' =>
        @CC.rec (lg n) (fun _ => Bool) (fun fb => fb Kc K (b + 1) [] t1 h1' nx1 fun e _ _ h2 nx2 => cgetK HD h2 b fun c2 => lpE c2 fun n2 ps2 as2 bo2 tm2 _ _ db2 => cputK HD h2 b (.lp n2 ps2 as2 bo2 tm2 e.stn e.pend db2) fun h3 => fB e.goes fun g => k (.bool g) h3 nx2) (compC P G n (lg n) N body)
      else false else false) (fun _ => false) false) (compC P G n (lg n) N assign)
  else false

theorem roundC_ok {P : Program} {G N : Nat} {Kc : KC} {K : KF} (hK : KcOk Kc K) {b : Nat} {args : List AV} {h : AV} {nx : Nat} {k : VK} (hh : roundC P G N Kc K b args h nx k = true) :
    ∃ v h' nx', roundA P G K N b args h nx = some (v, h', nx') ∧ k v h' nx' = true := by
  unfold roundC at hh
  obtain ⟨n, ps, assign, body, tm, st, pe, db, e1, h1⟩ := lpE_ok (cgetK_ok hh)
  obtain ⟨e2, h2⟩ := cond_ok h1
  obtain ⟨t, rfl, h3⟩ := taK_ok h2
  obtain ⟨t0, e3, h4⟩ := putPsK_ok ps args t _ h3
  obtain ⟨e, dl, t1, h1', nx1, e4, h5⟩ := compC_ok (P := P) (G := G) (n := n) (N := N) hK (b + 1) assign [] t0 h nx _ h4
  rcases exE_ok h5 with ⟨rfl, h6⟩ | ⟨j, rfl, h6⟩ | ⟨rfl, h6⟩
  · obtain ⟨e5, h7⟩ := cond_ok h6
    have e5 : dl = [] := List.isEmpty_iff.1 e5
    subst e5
    obtain ⟨n', ps', as', bo', tm', st', pe', db', e6, h8⟩ := lpE_ok (cgetK_ok h7)
    obtain ⟨e7, h9⟩ := cond_ok h8
    have h10 := cputK_ok h9
    obtain ⟨ex, dl2, t2, h2', nx2, e8, h11⟩ := compC_ok (P := P) (G := G) (n := n) (N := N) hK (b + 1) body [] t1 _ nx1 _ h10
    obtain ⟨n2, ps2, as2, bo2, tm2, st2, pe2, db2, e9, h12⟩ := lpE_ok (cgetK_ok h11)
    have h13 := (fB_eq ex.goes fun g => k (.bool g) _ nx2).symm.trans (cputK_ok h12)
    refine ⟨_, _, _, ?_, h13⟩
    unfold roundA
    rw [e1]
    simp only [e2, cond_true]
    rw [← e3, e4]
    simp only [e6, e7, cond_true, e8, e9]
  · cases h6
  · cases h6

noncomputable def xE (r : Option (AV × AV × Nat)) (c : VK) (other : Bool) : Bool :=
  match r with
  | some (v, h, nx) => c v h nx
  | none => other

noncomputable def callC (P : Program) (G : Nat) (X : KF) (N : Nat) (k : Nat) : KC :=
  @Nat.rec (fun _ => KC) (fun _ _ _ _ _ => false) (fun k ih f args h nx c => bif Nat.beq (Nat.mod f 2) 1 then roundC P G N ih (callA P G X N k) (Nat.div f 2) args h nx c else
    xE (X (Nat.div f 2) args h nx) c (@FC.rec (fun _ => Bool) (fun r => r ih (callA P G X N k) args h nx c) (compF P G N (Nat.div f 2)))) k

theorem compB_ok {P : Program} {G N n d : Nat} {Kc : KC} {K : KF} (hK : KcOk Kc K) {c : Code} {rs : List ResultVar} {args : List AV} {h : AV} {nx : Nat} {k : VK} (hh : (compB P G N n d c rs).run Kc K args h nx k = true) :
    Nat.ble args.length n = true ∧ ∃ e dl t h' nx' h'' vs, execC P G n d K N 0 c ([], argsA d args 0 (fullA d), h, nx) = some (e, dl, av d t, h', nx') ∧ (∀ j, e ≠ .exit j) ∧ takeA dl h' = some h'' ∧ resA P n d (av d t) h'' rs = some vs ∧ k (resOfA vs) h'' nx' = true := by
  obtain ⟨e1, h1⟩ := cond_ok (show (bif Nat.ble args.length n then _ else false) = true from hh)
  refine ⟨e1, ?_⟩
  obtain ⟨t, e2, h2⟩ := argsK_ok args 0 (fullT d) _ h1
  rw [av_full] at e2
  obtain ⟨e, dl, t', h', nx', e3, h3⟩ := compC_ok (P := P) (G := G) (n := n) (N := N) hK 0 c [] t h nx _ h2
  rw [e2] at e3
  rcases exE_ok h3 with ⟨rfl, h4⟩ | ⟨j, rfl, h4⟩ | ⟨rfl, h4⟩
  · obtain ⟨h'', e4, h5⟩ := takeE_ok h4
    obtain ⟨vs, e5, h6⟩ := resC_ok rs t' h'' _ h5
    exact ⟨_, dl, t', h', nx', h'', vs, e3, fun j hj => (by cases hj), e4, e5, outE_ok h6⟩
  · cases h4
  · obtain ⟨h'', e4, h5⟩ := takeE_ok h4
    obtain ⟨vs, e5, h6⟩ := resC_ok rs t' h'' _ h5
    exact ⟨_, dl, t', h', nx', h'', vs, e3, fun j hj => (by cases hj), e4, e5, outE_ok h6⟩

theorem callC_ok (P : Program) (G : Nat) (X : KF) (N : Nat) : ∀ (k : Nat), KcOk (callC P G X N k) (callA P G X N k)
  | 0, f, args, h, nx, c, hh => Bool.noConfusion (show false = true from hh)
  | k + 1, f, args, h, nx, c, hh => by
    have hh : (bif Nat.beq (f % 2) 1 then roundC P G N (callC P G X N k) (callA P G X N k) (f / 2) args h nx c else
      xE (X (f / 2) args h nx) c (@FC.rec (fun _ => Bool) (fun r => r (callC P G X N k) (callA P G X N k) args h nx c) (compF P G N (f / 2)))) = true := hh
    unfold callA
    cases hb : Nat.beq (f % 2) 1 with
    | true =>
      rw [hb] at hh
      exact roundC_ok (callC_ok P G X N k) hh
    | false =>
      rw [hb] at hh
      simp only [cond_false] at hh ⊢
      unfold xE at hh
      split at hh
      · rename_i v h' nx' e
        exact ⟨v, h', nx', by rw [e], hh⟩
      · rename_i e
        rw [e]
        simp only
        have hh : (compF P G N (f / 2)).run (callC P G X N k) (callA P G X N k) args h nx c = true := hh
        unfold compF at hh
        split at hh
        · exact Bool.noConfusion (show false = true from hh)
        · rename_i fn hf
          rw [hf]
          simp only
          cases hn : (fn.name == "runtime.NumGoroutine") with
          | true => rw [hn] at hh; exact Bool.noConfusion (show false = true from hh)
          | false =>
            rw [hn] at hh
            simp only [cond_false] at hh
            split at hh
            · exact Bool.noConfusion (show false = true from hh)
            · rename_i cd hc
              rw [fN_eq, fN_eq] at hh
              obtain ⟨e1, e, dl, t, h', nx', h'', vs, e2, e3, e4, e5, h1⟩ := compB_ok (callC_ok P G X N k) hh
              refine ⟨_, _, _, ?_, h1⟩
              simp only [e1, Bool.not_true, Bool.or_self, cond_false, hc, e2]
              cases e with
              | normal => simp only [e4, e5]
              | exit j => exact absurd rfl (e3 j)
              | ret => simp only [e4, e5]

noncomputable def isT (v _ : AV) (_ : Nat) : Bool := boolE v fun b => b

/-- A run by continuations that ends in true. -/
theorem run_true {P : Program} {G : Nat} {X : KF} {N k f : Nat} {args : List AV} {h : AV} {nx : Nat} (hr : (bif callC P G X N k (2 * f) args h nx isT then true else false) = true) :
    ∃ h' nx', callA P G X N k (2 * f) args h nx = some (.bool true, h', nx') := by
  obtain ⟨h1, _⟩ := cond_ok hr
  obtain ⟨v, h', nx', e, h2⟩ := callC_ok P G X N k _ _ _ _ _ h1
  obtain ⟨b, rfl, h3⟩ := boolE_ok h2
  have : b = true := h3
  subst this
  exact ⟨h', nx', e⟩

end I
end Go.Proofs.YtpaekplhcjleaaaGreatDoor

/- A closed call over one table that lies in block 0. -/
namespace Go.Proofs.YtpaekplhcjleaaaGreatDoor
namespace I
set_option linter.unusedVariables false

/-- Memory in which a table of numbers is known, and nothing else. -/
def tabH (k : IntKind) (zs : List Int) : AV := cput HD H0 0 (.cells 0 zs.length true (cmk (fun i => .int k (zs.getD i 0)) (lg zs.length) 0 zs.length))
def tabS (n : Nat) : Sg := fun b => if b = 0 then some (0, 0, n) else none
def tabB : Fr := ⟨fun _ => False, fun r => r = 0⟩

theorem tab_start {k : IntKind} {zs : List Int} {w : World} {t : TypeId} {fr : Nat × Nat} (hb : w.heap[0]? = some (.cells (zs.map fun z => Value.int k z).toArray t fr)) : HS (tabS zs.length) (tabH k zs) 1 w tabB w := by
  have hget : ∀ b, b < 2 ^ HD → cget HD (tabH k zs) b = if b = 0 then .cells 0 zs.length true (cmk (fun i => .int k (zs.getD i 0)) (lg zs.length) 0 zs.length) else .dead := fun b hlt => by
    unfold tabH
    rw [cget_cput HD H0 0 b _ (by decide) hlt]
    split
    · rfl
    · exact cget_unid 18 .dead b
  refine ⟨rfl, rfl, rfl, Nat.le_refl _, fun _ _ _ => rfl, fun b hlt => ?_, fun b p h => ?_, by decide, fun b b' p p' hne h h' hl => ?_, fun b p h hl => ?_⟩
  · rw [hget b hlt]
    by_cases h0 : b = 0
    · rw [if_pos h0, h0]
      refine ⟨0, 0, zs.length, _, fr, t, rfl, hb, by simp, ⟨rfl, by omega, fun h => by omega⟩, fun i hi => ⟨.int k (zs.getD i 0), ?_, rfl, ?_⟩, (fun h => by cases h), (fun h => by rcases h with h | h <;> simp at h)⟩
      · simp [hi]
      · rw [cget_cmk _ _ _ _ _ (lg_le _) hi, Nat.zero_add]; exact .int _ _
    · rw [if_neg h0]; trivial
  · unfold tabS at h
    by_cases h0 : b = 0
    · omega
    · rw [if_neg h0] at h; cases h
  · have hlt : b < 2 ^ HD := by
      unfold tabS at h
      by_cases h0 : b = 0
      · rw [h0]; decide
      · rw [if_neg h0] at h; cases h
    rw [hget b hlt] at hl
    split at hl <;> simp [liveW] at hl
  · unfold tabS at h
    by_cases h0 : b = 0
    · rw [if_pos h0] at h
      simp only [Option.some.injEq] at h
      left
      show p.1 = 0
      rw [← h]
    · rw [if_neg h0] at h; cases h

/-- A closed call over a table: it gives true, and all that lay is as it was. -/
theorem closed_tab {P : Program} {X : KF} {N k f : Nat} {kd : IntKind} {zs : List Int} (hX : XOk P 1 X) (hr : (bif callC P 1 X N k (2 * f) [] (tabH kd zs) 1 isT then true else false) = true) {w : World} {t : TypeId} {fr : Nat × Nat}
    (hb : w.heap[0]? = some (.cells (zs.map fun z => Value.int kd z).toArray t fr)) : Calls P f #[] w fun e w' => e = .returned (.bool true) ∧ K.Ext [] w w' := by
  obtain ⟨h', nx', hrun⟩ := run_true hr
  have hG : GRel (tabS zs.length) 1 := fun g hg => by
    have : g = 0 := by omega
    subst this
    exact ⟨zs.length, rfl⟩
  have hc := callA_ok hX k (2 * f) [] (tabH kd zs) 1 _ _ _ hrun (tabS zs.length) w tabB w [] (tab_start hb) hG ⟨rfl, fun i a v ha => by simp at ha⟩
  unfold CalleeOk at hc
  rw [if_pos (by omega), show 2 * f / 2 = f by omega] at hc
  refine hc.2.mono ?_
  rintro e w' ⟨σ', v', _, _, _, rfl, hr, H⟩
  cases hr
  exact ⟨rfl, H.os, H.tape, H.output, H.size, fun k hk _ => H.block k hk (fun h => h)⟩

/-- A closed call over nothing. -/
theorem closed_kc {P : Program} {X : KF} {N k f : Nat} (hX : XOk P 0 X) (hr : (bif callC P 0 X N k (2 * f) [] H0 0 isT then true else false) = true) (w : World) :
    Calls P f #[] w fun e w' => e = .returned (.bool true) ∧ K.Ext [] w w' := by
  obtain ⟨h', nx', hrun⟩ := run_true hr
  exact closed k hX hrun w

/-! The same, where the table is block g of the first G ones. -/
def tabHG (g : Nat) (k : IntKind) (zs : List Int) : AV := cput HD H0 g (.cells 0 zs.length true (cmk (fun i => .int k (zs.getD i 0)) (lg zs.length) 0 zs.length))
def tabSG (g G n : Nat) : Sg := fun b => if b = g then some (g, 0, n) else if b < G then some (b, 0, 0) else none
def tabBG (G : Nat) : Fr := ⟨fun _ => False, fun r => r < G⟩

theorem tab_startG {g G : Nat} (hg : g < G) (hG : G ≤ 2 ^ HD) {k : IntKind} {zs : List Int} {w : World} {t : TypeId} {fr : Nat × Nat} (hb : w.heap[g]? = some (.cells (zs.map fun z => Value.int k z).toArray t fr)) : HS (tabSG g G zs.length) (tabHG g k zs) G w (tabBG G) w := by
  have hget : ∀ b, b < 2 ^ HD → cget HD (tabHG g k zs) b = if b = g then .cells 0 zs.length true (cmk (fun i => .int k (zs.getD i 0)) (lg zs.length) 0 zs.length) else .dead := fun b hlt => by
    unfold tabHG
    rw [cget_cput HD H0 g b _ (by omega) hlt]
    split
    · rfl
    · exact cget_unid 18 .dead b
  have hdom : ∀ b p, tabSG g G zs.length b = some p → b < G ∧ p.1 = b := fun b p h => by
    unfold tabSG at h
    by_cases h0 : b = g
    · rw [if_pos h0] at h; simp only [Option.some.injEq] at h; rw [← h]; exact ⟨by omega, h0.symm⟩
    · rw [if_neg h0] at h
      by_cases h1 : b < G
      · rw [if_pos h1] at h; simp only [Option.some.injEq] at h; rw [← h]; exact ⟨h1, rfl⟩
      · rw [if_neg h1] at h; cases h
  refine ⟨rfl, rfl, rfl, Nat.le_refl _, fun _ _ _ => rfl, fun b hlt => ?_, fun b p h => (hdom b p h).1, hG, fun b b' p p' hne h h' hl => ?_, fun b p h hl => ?_⟩
  · rw [hget b hlt]
    by_cases h0 : b = g
    · rw [if_pos h0, h0]
      refine ⟨g, 0, zs.length, _, fr, t, by simp [tabSG], hb, by simp, ⟨rfl, by omega, fun h => by omega⟩, fun i hi => ⟨.int k (zs.getD i 0), ?_, rfl, ?_⟩, (fun h => by cases h), (fun h => by rcases h with h | h <;> simp at h)⟩
      · simp [hi]
      · rw [cget_cmk _ _ _ _ _ (lg_le _) hi, Nat.zero_add]; exact .int _ _
    · rw [if_neg h0]; trivial
  · have hlt : b < 2 ^ HD := by have := (hdom b p h).1; omega
    rw [hget b hlt] at hl
    split at hl <;> simp [liveW] at hl
  · left
    show p.1 < G
    rw [(hdom b p h).2]; exact (hdom b p h).1

theorem closed_tabG {g G : Nat} (hg : g < G) (hGG : G ≤ 2 ^ HD) {P : Program} {X : KF} {N k f : Nat} {kd : IntKind} {zs : List Int} (hX : XOk P G X) (hr : (bif callC P G X N k (2 * f) [] (tabHG g kd zs) G isT then true else false) = true) {w : World} {t : TypeId} {fr : Nat × Nat}
    (hb : w.heap[g]? = some (.cells (zs.map fun z => Value.int kd z).toArray t fr)) : Calls P f #[] w fun e w' => e = .returned (.bool true) ∧ K.Ext [] w w' := by
  obtain ⟨h', nx', hrun⟩ := run_true hr
  have hG : GRel (tabSG g G zs.length) G := fun q hq => by
    by_cases h0 : q = g
    · exact ⟨zs.length, by rw [h0]; simp [tabSG]⟩
    · exact ⟨0, by unfold tabSG; rw [if_neg h0, if_pos hq]⟩
  have hc := callA_ok hX k (2 * f) [] (tabHG g kd zs) G _ _ _ hrun (tabSG g G zs.length) w (tabBG G) w [] (tab_startG hg hGG hb) hG ⟨rfl, fun i a v ha => by simp at ha⟩
  unfold CalleeOk at hc
  rw [if_pos (by omega), show 2 * f / 2 = f by omega] at hc
  refine hc.2.mono ?_
  rintro e w' ⟨σ', v', _, _, _, rfl, hr, H⟩
  cases hr
  exact ⟨rfl, H.os, H.tape, H.output, H.size, fun k hk _ => H.block k hk (fun h => h)⟩

end I
end Go.Proofs.YtpaekplhcjleaaaGreatDoor

