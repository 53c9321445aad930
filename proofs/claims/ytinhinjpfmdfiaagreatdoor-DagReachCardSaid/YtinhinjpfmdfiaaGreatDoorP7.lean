/- Texts on which the proof of this claim stands: J7, ShaK, Wy, DgM, Dg8, Open5. -/
import Derived.Test.YtinhinjpfmdfiaaGreatDoorP6
import Derived.Test.YtinhinjpfmdfiaaGreatDoorP4
import Derived.Test.YtinhinjpfmdfiaaGreatDoorP1
import Derived.Test.YtinhinjpfmdfiaaGreatDoorP5
import Derived.SizedLaws
namespace Go.Proofs.YtinhinjpfmdfiaaGreatDoor
namespace I
set_option linter.unusedVariables false
noncomputable def fN {β : Type} (n : Nat) (c : Nat → β) : β := @Nat.rec (fun _ => β) (c 0) (fun m _ => c (Nat.succ m)) n
theorem fN_eq {β : Type} (n : Nat) (c : Nat → β) : fN n c = c n := by cases n <;> rfl
noncomputable def fI {β : Type} (n : Int) (c : Int → β) : β := @Int.rec (fun _ => β) (fun m => fN m fun m => c (.ofNat m)) (fun m => fN m fun m => c (.negSucc m)) n
theorem fI_eq {β : Type} (n : Int) (c : Int → β) : fI n c = c n := by
 cases n with
 | ofNat m => exact fN_eq m fun m => c (.ofNat m)
 | negSucc m => exact fN_eq m fun m => c (.negSucc m)
noncomputable def fB {β : Type} (b : Bool) (c : Bool → β) : β := @Bool.rec (fun _ => β) (c false) (c true) b
theorem fB_eq {β : Type} (b : Bool) (c : Bool → β) : fB b c = c b := by cases b <;> rfl
noncomputable def forceB {β : Type} (v : AV) (c : AV → β) : β :=
 match v with
 | .byt x => fN x fun x => c (.byt x)
 | v => c v
theorem forceB_eq {β : Type} (v : AV) (c : AV → β) : forceB v c = c v := by
 cases v <;> simp only [forceB,fN_eq]
noncomputable def forceV {β : Type} (v : AV) (c : AV → β) : β :=
 match v with
 | .bool b => fB b fun b => c (.bool b)
 | .int k n => fI n fun n => c (.int k n)
 | .str n x => fN n fun n => fN x fun x => c (.str n x)
 | .ptr b o => fN b fun b => fN o fun o => c (.ptr b o)
 | .sl b o l lb sz => fN b fun b => fN o fun o => fN l fun l => fN lb fun lb => fN sz fun sz => c (.sl b o l lb sz)
 | .agg n t => forceB t fun t => c (.agg n t)
 | v => c v
theorem forceV_eq {β : Type} (v : AV) (c : AV → β) : forceV v c = c v := by
 cases v <;> simp only [forceV,forceB_eq,fN_eq,fI_eq,fB_eq]
noncomputable def optE (x : Option AV) (k : AV → Bool) : Bool := @Option.rec AV (fun _ => Bool) false (fun v => forceV v k) x
theorem optE_ok {x : Option AV} {k : AV → Bool} (h : optE x k = true) : ∃ v,x = some v ∧ k v = true := by
 cases x with
 | none => exact nomatch (show false = true from h)
 | some v => exact ⟨v,rfl,by rw [← forceV_eq v k]; exact h⟩
theorem cond_ok {b c : Bool} (h : (bif b then c else false) = true) : b = true ∧ c = true := by
 cases b with
 | false => exact nomatch (show false = true from h)
 | true => exact ⟨rfl,h⟩
noncomputable def boolE (v : AV) (f : Bool → Bool) : Bool := @AV.rec (fun _ => Bool) false false f (fun _ _ => false) (fun _ _ => false) false (fun _ _ => false) false (fun _ _ _ _ _ => false) false (fun _ => false) false (fun _ _ _ _ _ => false) false (fun _ _ _ => false) (fun _ _ _ => false) (fun _ _ => false) false (fun _ _ _ _ => false) (fun _ _ _ _ => false) (fun _ _ => false) (fun _ => false) false (fun _ _ _ _ _ => false) (fun _ _ => false) (fun _ => false) (fun _ _ _ _ _ _ _ _ _ => false) false (fun _ _ _ => false) v
theorem boolE_ok {v : AV} {f : Bool → Bool} (h : boolE v f = true) : ∃ x0,v = .bool x0 ∧ f x0 = true := by
 cases v <;> first | exact ⟨_, rfl,h⟩ | exact nomatch (show false = true from h)
noncomputable def intE (v : AV) (f : IntKind → Int → Bool) : Bool := @AV.rec (fun _ => Bool) false false (fun _ => false) f (fun _ _ => false) false (fun _ _ => false) false (fun _ _ _ _ _ => false) false (fun _ => false) false (fun _ _ _ _ _ => false) false (fun _ _ _ => false) (fun _ _ _ => false) (fun _ _ => false) false (fun _ _ _ _ => false) (fun _ _ _ _ => false) (fun _ _ => false) (fun _ => false) false (fun _ _ _ _ _ => false) (fun _ _ => false) (fun _ => false) (fun _ _ _ _ _ _ _ _ _ => false) false (fun _ _ _ => false) v
theorem intE_ok {v : AV} {f : IntKind → Int → Bool} (h : intE v f = true) : ∃ x0 x1,v = .int x0 x1 ∧ f x0 x1 = true := by
 cases v <;> first | exact ⟨_,_, rfl,h⟩ | exact nomatch (show false = true from h)
noncomputable def strE (v : AV) (f : Nat → Nat → Bool) : Bool := @AV.rec (fun _ => Bool) false false (fun _ => false) (fun _ _ => false) f false (fun _ _ => false) false (fun _ _ _ _ _ => false) false (fun _ => false) false (fun _ _ _ _ _ => false) false (fun _ _ _ => false) (fun _ _ _ => false) (fun _ _ => false) false (fun _ _ _ _ => false) (fun _ _ _ _ => false) (fun _ _ => false) (fun _ => false) false (fun _ _ _ _ _ => false) (fun _ _ => false) (fun _ => false) (fun _ _ _ _ _ _ _ _ _ => false) false (fun _ _ _ => false) v
theorem strE_ok {v : AV} {f : Nat → Nat → Bool} (h : strE v f = true) : ∃ x0 x1,v = .str x0 x1 ∧ f x0 x1 = true := by
 cases v <;> first | exact ⟨_,_, rfl,h⟩ | exact nomatch (show false = true from h)
noncomputable def ptrE (v : AV) (f : Nat → Nat → Bool) : Bool := @AV.rec (fun _ => Bool) false false (fun _ => false) (fun _ _ => false) (fun _ _ => false) false f false (fun _ _ _ _ _ => false) false (fun _ => false) false (fun _ _ _ _ _ => false) false (fun _ _ _ => false) (fun _ _ _ => false) (fun _ _ => false) false (fun _ _ _ _ => false) (fun _ _ _ _ => false) (fun _ _ => false) (fun _ => false) false (fun _ _ _ _ _ => false) (fun _ _ => false) (fun _ => false) (fun _ _ _ _ _ _ _ _ _ => false) false (fun _ _ _ => false) v
theorem ptrE_ok {v : AV} {f : Nat → Nat → Bool} (h : ptrE v f = true) : ∃ x0 x1,v = .ptr x0 x1 ∧ f x0 x1 = true := by
 cases v <;> first | exact ⟨_,_, rfl,h⟩ | exact nomatch (show false = true from h)
noncomputable def slE (v : AV) (f : Nat → Nat → Nat → Nat → Nat → Bool) : Bool := @AV.rec (fun _ => Bool) false false (fun _ => false) (fun _ _ => false) (fun _ _ => false) false (fun _ _ => false) false f false (fun _ => false) false (fun _ _ _ _ _ => false) false (fun _ _ _ => false) (fun _ _ _ => false) (fun _ _ => false) false (fun _ _ _ _ => false) (fun _ _ _ _ => false) (fun _ _ => false) (fun _ => false) false (fun _ _ _ _ _ => false) (fun _ _ => false) (fun _ => false) (fun _ _ _ _ _ _ _ _ _ => false) false (fun _ _ _ => false) v
theorem slE_ok {v : AV} {f : Nat → Nat → Nat → Nat → Nat → Bool} (h : slE v f = true) : ∃ x0 x1 x2 x3 x4,v = .sl x0 x1 x2 x3 x4 ∧ f x0 x1 x2 x3 x4 = true := by
 cases v <;> first | exact ⟨_,_,_,_,_, rfl,h⟩ | exact nomatch (show false = true from h)
noncomputable def aggE (v : AV) (f : Nat → AV → Bool) : Bool := @AV.rec (fun _ => Bool) false false (fun _ => false) (fun _ _ => false) (fun _ _ => false) false (fun _ _ => false) false (fun _ _ _ _ _ => false) false (fun _ => false) false (fun _ _ _ _ _ => false) false (fun _ _ _ => false) (fun x0 x1 _ => f x0 x1) (fun _ _ => false) false (fun _ _ _ _ => false) (fun _ _ _ _ => false) (fun _ _ => false) (fun _ => false) false (fun _ _ _ _ _ => false) (fun _ _ => false) (fun _ => false) (fun _ _ _ _ _ _ _ _ _ => false) false (fun _ _ _ => false) v
theorem aggE_ok {v : AV} {f : Nat → AV → Bool} (h : aggE v f = true) : ∃ x0 x1,v = .agg x0 x1 ∧ f x0 x1 = true := by
 cases v <;> first | exact ⟨_,_, rfl,h⟩ | exact nomatch (show false = true from h)
noncomputable def cellsE (v : AV) (f : Nat → Nat → Bool → AV → Bool) : Bool := @AV.rec (fun _ => Bool) false false (fun _ => false) (fun _ _ => false) (fun _ _ => false) false (fun _ _ => false) false (fun _ _ _ _ _ => false) false (fun _ => false) false (fun _ _ _ _ _ => false) false (fun _ _ _ => false) (fun _ _ _ => false) (fun _ _ => false) false (fun _ _ _ _ => false) (fun _ _ _ _ => false) (fun _ _ => false) (fun _ => false) false (fun x0 x1 x2 x3 _ => f x0 x1 x2 x3) (fun _ _ => false) (fun _ => false) (fun _ _ _ _ _ _ _ _ _ => false) false (fun _ _ _ => false) v
theorem cellsE_ok {v : AV} {f : Nat → Nat → Bool → AV → Bool} (h : cellsE v f = true) : ∃ x0 x1 x2 x3,v = .cells x0 x1 x2 x3 ∧ f x0 x1 x2 x3 = true := by
 cases v <;> first | exact ⟨_,_,_,_, rfl,h⟩ | exact nomatch (show false = true from h)
noncomputable def lpE (v : AV) (f : Nat → List Nat → Code → Code → AV → Nat → Nat → Nat → Bool) : Bool := @AV.rec (fun _ => Bool) false false (fun _ => false) (fun _ _ => false) (fun _ _ => false) false (fun _ _ => false) false (fun _ _ _ _ _ => false) false (fun _ => false) false (fun _ _ _ _ _ => false) false (fun _ _ _ => false) (fun _ _ _ => false) (fun _ _ => false) false (fun _ _ _ _ => false) (fun _ _ _ _ => false) (fun _ _ => false) (fun _ => false) false (fun _ _ _ _ _ => false) (fun _ _ => false) (fun _ => false) (fun x0 x1 x2 x3 x4 x5 x6 x7 _ => f x0 x1 x2 x3 x4 x5 x6 x7) false (fun _ _ _ => false) v
theorem lpE_ok {v : AV} {f : Nat → List Nat → Code → Code → AV → Nat → Nat → Nat → Bool} (h : lpE v f = true) : ∃ x0 x1 x2 x3 x4 x5 x6 x7,v = .lp x0 x1 x2 x3 x4 x5 x6 x7 ∧ f x0 x1 x2 x3 x4 x5 x6 x7 = true := by
 cases v <;> first | exact ⟨_,_,_,_,_,_,_,_, rfl,h⟩ | exact nomatch (show false = true from h)
noncomputable def nuE (v : AV) (fn : AV → AV → Bool) (fu : AV → Bool) : Bool := @AV.rec (fun _ => Bool) false false (fun _ => false) (fun _ _ => false) (fun _ _ => false) false (fun _ _ => false) false (fun _ _ _ _ _ => false) false (fun _ => false) false (fun _ _ _ _ _ => false) false (fun _ _ _ => false) (fun _ _ _ => false) (fun _ _ => false) false (fun _ _ _ _ => false) (fun x0 x1 _ _ => fn x0 x1) (fun x0 _ => fu x0) (fun _ => false) false (fun _ _ _ _ _ => false) (fun _ _ => false) (fun _ => false) (fun _ _ _ _ _ _ _ _ _ => false) false (fun _ _ _ => false) v
theorem nuE_ok {v : AV} {fn : AV → AV → Bool} {fu : AV → Bool} (h : nuE v fn fu = true) : (∃ l r,v = .node l r ∧ fn l r = true) ∨ ∃ u,v = .uni u ∧ fu u = true := by
 cases v <;> first | exact .inl ⟨_,_,rfl,h⟩ | exact .inr ⟨_,rfl,h⟩ | exact nomatch (show false = true from h)
noncomputable def natE (n : Int) (f : Nat → Bool) : Bool := @Int.rec (fun _ => Bool) f (fun _ => false) n
theorem natE_ok {n : Int} {f : Nat → Bool} (h : natE n f = true) : ∃ m,n = .ofNat m ∧ f m = true := by
 cases n with
 | ofNat m => exact ⟨m,rfl,h⟩
 | negSucc m => exact nomatch (show false = true from h)
noncomputable def cgetK (d : Nat) : AV → Nat → (AV → Bool) → Bool :=
 @Nat.rec (fun _ => AV → Nat → (AV → Bool) → Bool) (fun t _ k => k t)
  (fun d ih t i k => nuE t (fun l r => bif Nat.blt i (Nat.pow 2 d) then ih l i k else ih r (Nat.sub i (Nat.pow 2 d)) k) k) d
theorem cgetK_ok : ∀ {d : Nat} {t : AV} {i : Nat} {k : AV → Bool},cgetK d t i k = true → k (cget d t i) = true
 | 0,t,i,k,h => h
 | d + 1,t,i,k,h => by
  have h' : nuE t (fun l r => bif Nat.blt i (Nat.pow 2 d) then cgetK d l i k else cgetK d r (Nat.sub i (Nat.pow 2 d)) k) k = true := h
  rcases nuE_ok h' with ⟨l,r,rfl,h1⟩ | ⟨u,rfl,h1⟩
  ·simp only [cget]
   have e : Nat.pow 2 d = 2 ^ d := rfl
   rw [e] at h1
   cases hb : Nat.blt i (2 ^ d) with
   | true => rw [hb] at h1; exact cgetK_ok h1
   | false => rw [hb] at h1; exact cgetK_ok (i := i - 2 ^ d) h1
  ·exact h1
noncomputable def cputK (d : Nat) : AV → Nat → AV → (AV → Bool) → Bool :=
 @Nat.rec (fun _ => AV → Nat → AV → (AV → Bool) → Bool) (fun _ _ v k => k v)
  (fun d ih t i v k => nuE t
   (fun l r => bif Nat.blt i (Nat.pow 2 d) then ih l i v (fun l' => k (.node l' r)) else ih r (Nat.sub i (Nat.pow 2 d)) v (fun r' => k (.node l r')))
   (fun u => bif Nat.blt i (Nat.pow 2 d) then ih (unid d u) i v (fun l' => k (.node l' (unid d u))) else ih (unid d u) (Nat.sub i (Nat.pow 2 d)) v (fun r' => k (.node (unid d u) r')))) d
theorem cputK_ok : ∀ {d : Nat} {t : AV} {i : Nat} {v : AV} {k : AV → Bool},cputK d t i v k = true → k (cput d t i v) = true
 | 0,t,i,v,k,h => h
 | d + 1,t,i,v,k,h => by
  have e : Nat.pow 2 d = 2 ^ d := rfl
  rcases nuE_ok (show nuE t (fun l r => bif Nat.blt i (Nat.pow 2 d) then cputK d l i v (fun l' => k (.node l' r)) else cputK d r (Nat.sub i (Nat.pow 2 d)) v (fun r' => k (.node l r')))
   (fun u => bif Nat.blt i (Nat.pow 2 d) then cputK d (unid d u) i v (fun l' => k (.node l' (unid d u))) else cputK d (unid d u) (Nat.sub i (Nat.pow 2 d)) v (fun r' => k (.node (unid d u) r'))) = true from h) with ⟨l,r,rfl,h1⟩ | ⟨u,rfl,h1⟩
  ·rw [e] at h1
   simp only [cput,kidL,kidR]
   cases hb : Nat.blt i (2 ^ d) with
   | true => rw [hb] at h1; exact cputK_ok h1
   | false => rw [hb] at h1; exact cputK_ok (i := i - 2 ^ d) h1
  ·rw [e] at h1
   simp only [cput,kidL,kidR]
   cases hb : Nat.blt i (2 ^ d) with
   | true => rw [hb] at h1; exact cputK_ok h1
   | false => rw [hb] at h1; exact cputK_ok (i := i - 2 ^ d) h1
noncomputable def nubE (v : AV) (fn : AV → AV → Bool) (fu : AV → Bool) (fb : Nat → Bool) : Bool := @AV.rec (fun _ => Bool) false false (fun _ => false) (fun _ _ => false) (fun _ _ => false) false (fun _ _ => false) false (fun _ _ _ _ _ => false) false (fun _ => false) false (fun _ _ _ _ _ => false) false (fun _ _ _ => false) (fun _ _ _ => false) (fun _ _ => false) false (fun _ _ _ _ => false) (fun x0 x1 _ _ => fn x0 x1) (fun x0 _ => fu x0) fb false (fun _ _ _ _ _ => false) (fun _ _ => false) (fun _ => false) (fun _ _ _ _ _ _ _ _ _ => false) false (fun _ _ _ => false) v
theorem nubE_ok {v : AV} {fn : AV → AV → Bool} {fu : AV → Bool} {fb : Nat → Bool} (h : nubE v fn fu fb = true) : (∃ l r,v = .node l r ∧ fn l r = true) ∨ (∃ u,v = .uni u ∧ fu u = true) ∨ ∃ x,v = .byt x ∧ fb x = true := by
 cases v <;> first | exact .inl ⟨_,_,rfl,h⟩ | exact .inr (.inl ⟨_,rfl,h⟩) | exact .inr (.inr ⟨_,rfl,h⟩) | exact nomatch (show false = true from h)
noncomputable def cgetB (d : Nat) : AV → Nat → (AV → Bool) → Bool :=
 @Nat.rec (fun _ => AV → Nat → (AV → Bool) → Bool) (fun t _ k => k t)
  (fun d ih t i k => nubE t (fun l r => bif Nat.blt i (Nat.pow 2 d) then ih l i k else ih r (Nat.sub i (Nat.pow 2 d)) k) k
   (fun x => fN (x / 256 ^ (2 ^ (d + 1) - 1 - i) % 256) fun y => k (.int .u8 (.ofNat y)))) d
theorem cgetB_ok : ∀ {d : Nat} {t : AV} {i : Nat} {k : AV → Bool},cgetB d t i k = true → k (cget d t i) = true
 | 0,t,i,k,h => h
 | d + 1,t,i,k,h => by
  have h' : nubE t (fun l r => bif Nat.blt i (Nat.pow 2 d) then cgetB d l i k else cgetB d r (Nat.sub i (Nat.pow 2 d)) k) k
   (fun x => fN (x / 256 ^ (2 ^ (d + 1) - 1 - i) % 256) fun y => k (.int .u8 (.ofNat y))) = true := h
  rcases nubE_ok h' with ⟨l,r,rfl,h1⟩ | ⟨u,rfl,h1⟩ | ⟨x,rfl,h1⟩
  ·simp only [cget]
   have e : Nat.pow 2 d = 2 ^ d := rfl
   rw [e] at h1
   cases hb : Nat.blt i (2 ^ d) with
   | true => rw [hb] at h1; exact cgetB_ok h1
   | false => rw [hb] at h1; exact cgetB_ok (i := i - 2 ^ d) h1
  ·exact h1
  ·rw [fN_eq] at h1; exact h1
noncomputable def cputB (d : Nat) : AV → Nat → AV → (AV → Bool) → Bool :=
 @Nat.rec (fun _ => AV → Nat → AV → (AV → Bool) → Bool) (fun _ _ v k => k v)
  (fun d ih t i v k => nubE t
   (fun l r => bif Nat.blt i (Nat.pow 2 d) then ih l i v (fun l' => forceB (nd d l' r) k) else ih r (Nat.sub i (Nat.pow 2 d)) v (fun r' => forceB (nd d l r') k))
   (fun u => bif Nat.blt i (Nat.pow 2 d) then ih (unid d u) i v (fun l' => forceB (nd d l' (unid d u)) k) else ih (unid d u) (Nat.sub i (Nat.pow 2 d)) v (fun r' => forceB (nd d (unid d u) r') k))
   (fun x => bif Nat.blt i (Nat.pow 2 d) then ih (byt d (x / 256 ^ 2 ^ d)) i v (fun l' => forceB (nd d l' (byt d (x % 256 ^ 2 ^ d))) k) else ih (byt d (x % 256 ^ 2 ^ d)) (Nat.sub i (Nat.pow 2 d)) v (fun r' => forceB (nd d (byt d (x / 256 ^ 2 ^ d)) r') k))) d
theorem cputs_succ (d : Nat) (t : AV) (i : Nat) (v : AV) : cputs (d + 1) 0 t i v = bif Nat.blt i (2 ^ d) then nd d (cputs d 0 (kidL d t) i v) (kidR d t) else nd d (kidL d t) (cputs d 0 (kidR d t) (i - 2 ^ d) v) := rfl
theorem cputB_ok : ∀ {d : Nat} {t : AV} {i : Nat} {v : AV} {k : AV → Bool},cputB d t i v k = true → k (cputs d 0 t i v) = true
 | 0,t,i,v,k,h => h
 | d + 1,t,i,v,k,h => by
  have e : Nat.pow 2 d = 2 ^ d := rfl
  rw [cputs_succ]
  rcases nubE_ok (show nubE t
   (fun l r => bif Nat.blt i (Nat.pow 2 d) then cputB d l i v (fun l' => forceB (nd d l' r) k) else cputB d r (Nat.sub i (Nat.pow 2 d)) v (fun r' => forceB (nd d l r') k))
   (fun u => bif Nat.blt i (Nat.pow 2 d) then cputB d (unid d u) i v (fun l' => forceB (nd d l' (unid d u)) k) else cputB d (unid d u) (Nat.sub i (Nat.pow 2 d)) v (fun r' => forceB (nd d (unid d u) r') k))
   (fun x => bif Nat.blt i (Nat.pow 2 d) then cputB d (byt d (x / 256 ^ 2 ^ d)) i v (fun l' => forceB (nd d l' (byt d (x % 256 ^ 2 ^ d))) k) else cputB d (byt d (x % 256 ^ 2 ^ d)) (Nat.sub i (Nat.pow 2 d)) v (fun r' => forceB (nd d (byt d (x / 256 ^ 2 ^ d)) r') k)) = true from h) with ⟨l,r,rfl,h1⟩ | ⟨u,rfl,h1⟩ | ⟨x,rfl,h1⟩
  all_goals
   rw [e] at h1
   cases hb : Nat.blt i (2 ^ d) with
   | true => rw [hb] at h1; have h2 := cputB_ok h1; rw [forceB_eq] at h2; exact h2
   | false => rw [hb] at h1; have h2 := cputB_ok (i := i - 2 ^ d) h1; rw [forceB_eq] at h2; exact h2
structure Bx where
 v : AV
structure Q (α : Type) where
 a : α
 b : α
 c : α
 d : α
def Tr : Nat → Type
 | 0 => Bx
 | 1 => Bx × Bx
 | d + 2 => Q (Tr d)
def av : (d : Nat) → Tr d → AV
 | 0,t => Bx.v t
 | 1,t => .node (Bx.v (Prod.fst t)) (Bx.v (Prod.snd t))
 | d + 2,t => .node (.node (av d (Q.a t)) (av d (Q.b t))) (.node (av d (Q.c t)) (av d (Q.d t)))
def fullT : (d : Nat) → Tr d
 | 0 => Bx.mk .undef
 | 1 => Prod.mk (Bx.mk .undef) (Bx.mk .undef)
 | d + 2 => Q.mk (fullT d) (fullT d) (fullT d) (fullT d)
noncomputable def taK : (d : Nat) → AV → (Tr d → Bool) → Bool
 | 0,t,c => c (Bx.mk t)
 | 1,t,c => nuE t (fun l r => c (Prod.mk (Bx.mk l) (Bx.mk r))) (fun _ => false)
 | d + 2,t,c => nuE t (fun l r => nuE l (fun x y => nuE r (fun z u => taK d x fun x => taK d y fun y => taK d z fun z => taK d u fun u => c (Q.mk x y z u)) (fun _ => false)) (fun _ => false)) (fun _ => false)
theorem nuE_node {t : AV} {fn : AV → AV → Bool} (h : nuE t fn (fun _ => false) = true) : ∃ l r,t = .node l r ∧ fn l r = true := by
 rcases nuE_ok h with h | ⟨u,_,h⟩
 ·exact h
 ·cases h
theorem taK_ok : ∀ {d : Nat} {t : AV} {c : Tr d → Bool},taK d t c = true → ∃ u,av d u = t ∧ c u = true
 | 0,t,c,h => ⟨Bx.mk t,rfl,h⟩
 | 1,t,c,h => by
  obtain ⟨l,r,rfl,h1⟩ := nuE_node h
  exact ⟨Prod.mk (Bx.mk l) (Bx.mk r),rfl,h1⟩
 | d + 2,t,c,h => by
  obtain ⟨l,r,rfl,h1⟩ := nuE_node h
  obtain ⟨x,y,rfl,h2⟩ := nuE_node h1
  obtain ⟨z,u,rfl,h3⟩ := nuE_node h2
  obtain ⟨x',e1,h4⟩ := taK_ok h3
  obtain ⟨y',e2,h5⟩ := taK_ok h4
  obtain ⟨z',e3,h6⟩ := taK_ok h5
  obtain ⟨u',e4,h7⟩ := taK_ok h6
  exact ⟨Q.mk x' y' z' u',by show AV.node (.node (av d x') (av d y')) (.node (av d z') (av d u')) = _; rw [e1,e2,e3,e4],h7⟩
structure GC (d : Nat) where
 run : Tr d → (AV → Bool) → Bool
structure PC (d : Nat) where
 run : Tr d → AV → (Tr d → Bool) → Bool
structure LcC (d : Nat) where
 acc : Tr d → Bx
noncomputable def getA : (d : Nat) → Nat → LcC d
 | 0,_ => ⟨fun t => t⟩
 | 1,i => bif Nat.blt i 1 then ⟨fun t => @Prod.fst Bx Bx t⟩ else ⟨fun t => @Prod.snd Bx Bx t⟩
 | d + 2,i => bif Nat.blt i (2 ^ (d + 1)) then
   (bif Nat.blt i (2 ^ d) then @LcC.rec d (fun _ => LcC (d + 2)) (fun f => ⟨fun t => f (@Q.a (Tr d) t)⟩) (getA d i) else @LcC.rec d (fun _ => LcC (d + 2)) (fun f => ⟨fun t => f (@Q.b (Tr d) t)⟩) (getA d (i - 2 ^ d)))
  else (bif Nat.blt (i - 2 ^ (d + 1)) (2 ^ d) then @LcC.rec d (fun _ => LcC (d + 2)) (fun f => ⟨fun t => f (@Q.c (Tr d) t)⟩) (getA d (i - 2 ^ (d + 1))) else @LcC.rec d (fun _ => LcC (d + 2)) (fun f => ⟨fun t => f (@Q.d (Tr d) t)⟩) (getA d (i - 2 ^ (d + 1) - 2 ^ d)))
theorem getA_acc : ∀ (d i : Nat) (t : Tr d),((getA d i).acc t).v = cget d (av d t) i
 | 0,i,t => rfl
 | 1,i,t => by
  unfold getA
  simp only [av,cget,Nat.pow_zero]
  cases Nat.blt i 1 with
  | true => rfl
  | false => rfl
 | d + 2,i,t => by
  unfold getA
  simp only [av,cget]
  cases Nat.blt i (2 ^ (d + 1)) with
  | true =>
   simp only [cond_true]
   cases Nat.blt i (2 ^ d) with
   | true => exact getA_acc d i (Q.a t)
   | false => exact getA_acc d (i - 2 ^ d) (Q.b t)
  | false =>
   simp only [cond_false]
   cases Nat.blt (i - 2 ^ (d + 1)) (2 ^ d) with
   | true => exact getA_acc d _ (Q.c t)
   | false => exact getA_acc d _ (Q.d t)
noncomputable def getC (d i : Nat) : GC d := @LcC.rec d (fun _ => GC d) (fun f => ⟨fun t k => @Bx.rec (fun _ => Bool) k (f t)⟩) (getA d i)
theorem getC_run (d i : Nat) (t : Tr d) (k : AV → Bool) : (getC d i).run t k = k (cget d (av d t) i) := by
 rw [← getA_acc]; rfl
noncomputable def putC : (d : Nat) → Nat → PC d
  | 0,_ => ⟨fun _ v k => k (Bx.mk v)⟩
  | 1,i => bif Nat.blt i 1 then ⟨fun t v k => @Prod.rec Bx Bx (fun _ => Bool) (fun l r => k (Prod.mk (Bx.mk v) r)) t⟩ else ⟨fun t v k => @Prod.rec Bx Bx (fun _ => Bool) (fun l r => k (Prod.mk l (Bx.mk v))) t⟩
  | d + 2,i => bif Nat.blt i (2 ^ (d + 1)) then
      (bif Nat.blt i (2 ^ d) then @PC.rec d (fun _ => PC (d + 2)) (fun f => ⟨fun t v k => @Q.rec (Tr d) (fun _ => Bool) (fun x y z u => f x v fun x => k (Q.mk x y z u)) t⟩) (putC d i)
       else @PC.rec d (fun _ => PC (d + 2)) (fun f => ⟨fun t v k => @Q.rec (Tr d) (fun _ => Bool) (fun x y z u => f y v fun y => k (Q.mk x y z u)) t⟩) (putC d (i - 2 ^ d)))
    else (bif Nat.blt (i - 2 ^ (d + 1)) (2 ^ d) then @PC.rec d (fun _ => PC (d + 2)) (fun f => ⟨fun t v k => @Q.rec (Tr d) (fun _ => Bool) (fun x y z u => f z v fun z => k (Q.mk x y z u)) t⟩) (putC d (i - 2 ^ (d + 1)))
       else @PC.rec d (fun _ => PC (d + 2)) (fun f => ⟨fun t v k => @Q.rec (Tr d) (fun _ => Bool) (fun x y z u => f u v fun u => k (Q.mk x y z u)) t⟩) (putC d (i - 2 ^ (d + 1) - 2 ^ d)))
theorem putC_ok : ∀ (d i : Nat) (t : Tr d) (v : AV) (k : Tr d → Bool),∃ t',av d t' = cput d (av d t) i v ∧ (putC d i).run t v k = k t'
 | 0,i,t,v,k => ⟨Bx.mk v,rfl,rfl⟩
 | 1,i,t,v,k => by
  obtain ⟨l,r⟩ := t
  unfold putC
  simp only [av,cput,kidL,kidR,Nat.pow_zero]
  cases Nat.blt i 1 with
  | true => exact ⟨Prod.mk (Bx.mk v) r,rfl,rfl⟩
  | false => exact ⟨Prod.mk l (Bx.mk v),rfl,rfl⟩
 | d + 2,i,t,v,k => by
  obtain ⟨x,y,z,u⟩ := t
  unfold putC
  simp only [av,cput,kidL,kidR]
  cases Nat.blt i (2 ^ (d + 1)) with
  | true =>
   simp only [cond_true]
   cases Nat.blt i (2 ^ d) with
   | true =>
    obtain ⟨x',e1,e2⟩ := putC_ok d i x v (fun x => k (Q.mk x y z u))
    exact ⟨Q.mk x' y z u,by show AV.node (.node (av d x') (av d y)) (.node (av d z) (av d u)) = _; rw [e1]; rfl,e2⟩
   | false =>
    obtain ⟨y',e1,e2⟩ := putC_ok d (i - 2 ^ d) y v (fun y => k (Q.mk x y z u))
    exact ⟨Q.mk x y' z u,by show AV.node (.node (av d x) (av d y')) (.node (av d z) (av d u)) = _; rw [e1]; rfl,e2⟩
  | false =>
   simp only [cond_false]
   cases Nat.blt (i - 2 ^ (d + 1)) (2 ^ d) with
   | true =>
    obtain ⟨z',e1,e2⟩ := putC_ok d (i - 2 ^ (d + 1)) z v (fun z => k (Q.mk x y z u))
    exact ⟨Q.mk x y z' u,by show AV.node (.node (av d x) (av d y)) (.node (av d z') (av d u)) = _; rw [e1]; rfl,e2⟩
   | false =>
    obtain ⟨u',e1,e2⟩ := putC_ok d (i - 2 ^ (d + 1) - 2 ^ d) u v (fun u => k (Q.mk x y z u))
    exact ⟨Q.mk x y z u',by show AV.node (.node (av d x) (av d y)) (.node (av d z) (av d u')) = _; rw [e1]; rfl,e2⟩
noncomputable def dstC (n d : Nat) : Option Nat → PC d
 | none => ⟨fun t _ k => k t⟩
 | some i => bif Nat.blt i n then putC d i else ⟨fun t _ k => k t⟩
theorem dstC_ok (n d : Nat) (dst : Option Nat) (t : Tr d) (v : AV) {k : Tr d → Bool} (h : (dstC n d dst).run t v k = true) : ∃ t',av d t' = putA n d (av d t) dst v ∧ k t' = true := by
 cases dst with
 | none => exact ⟨t,rfl,h⟩
 | some i =>
  unfold dstC at h
  dsimp only at h
  simp only [putA]
  cases hb : Nat.blt i n with
  | true =>
   rw [hb] at h
   obtain ⟨t',e1,e2⟩ := putC_ok d i t v k
   exact ⟨t',e1,by rw [← e2]; exact h⟩
  | false => rw [hb] at h; exact ⟨t,rfl,h⟩
noncomputable def ocA (G n d : Nat) : Operand → GC d
 | .tmp t => bif Nat.blt t n then getC d t else ⟨fun _ k => k .undef⟩
 | .const v => forceV (ofConst v) fun a => ⟨fun _ k => k a⟩
 | .global g => bif Nat.blt g G then ⟨fun _ k => k (.ptr g 0)⟩ else ⟨fun _ k => k .bad⟩
 | .func f => ⟨fun _ k => k (.fn f .lnil .lnil)⟩
def OcOk {d : Nat} (oc : Operand → GC d) (ρ : Tr d → Operand → AV) : Prop := ∀ x t k,(oc x).run t k = true → k (ρ t x) = true
theorem ocA_ok (G n d : Nat) : OcOk (ocA G n d) (fun t => opndA G n d (av d t)) := by
 intro x t k h
 cases x with
 | tmp i =>
  unfold ocA at h
  dsimp only at h
  simp only [opndA]
  cases hb : Nat.blt i n with
  | true => rw [hb] at h; exact (getC_run d i t k).symm.trans h
  | false => rw [hb] at h; exact h
 | const v => unfold ocA at h; dsimp only at h; rw [forceV_eq] at h; exact h
 | global g =>
  unfold ocA at h
  dsimp only at h
  simp only [opndA]
  cases hb : Nat.blt g G with
  | true => rw [hb] at h; exact h
  | false => rw [hb] at h; exact h
 | func f => exact h
noncomputable def ocS (G n d : Nat) (ls : List Nat) : Operand → GC d
 | .tmp t => bif Nat.blt t n && ls.any (fun s => Nat.beq s t) then getC d t else ⟨fun _ _ => false⟩
 | .const v => forceV (ofConst v) fun a => ⟨fun _ k => k a⟩
 | .global g => bif Nat.blt g G then ⟨fun _ k => k (.ptr g 0)⟩ else ⟨fun _ k => k .bad⟩
 | .func f => ⟨fun _ k => k (.fn f .lnil .lnil)⟩
theorem pickS_snap {n d t : Nat} {tm : AV} (ht : Nat.blt t n = true) : ∀ {ls : List Nat},ls.any (fun s => Nat.beq s t) = true → pickS t ls (snap n d tm ls) = cget d tm t
 | [],h => by simp at h
 | s :: l,h => by
  simp only [snap,pickS]
  cases hb : Nat.beq s t with
  | true => have := beqn_iff.1 hb; subst this; simp only [ht,cond_true]
  | false =>
   simp only [cond_false]
   simp only [List.any_cons,hb,Bool.false_or] at h
   exact pickS_snap ht h
theorem ocS_ok (G n d : Nat) (ls : List Nat) : OcOk (ocS G n d ls) (fun t => opndS G ls (snap n d (av d t) ls)) := by
 intro x t k h
 cases x with
 | tmp i =>
  unfold ocS at h
  dsimp only at h
  simp only [opndS]
  cases hb : (Nat.blt i n && ls.any (fun s => Nat.beq s i)) with
  | true =>
   rw [hb] at h
   simp only [Bool.and_eq_true] at hb
   rw [pickS_snap hb.1 hb.2]
   exact (getC_run d i t k).symm.trans h
  | false => rw [hb] at h; exact nomatch (show false = true from h)
 | const v => unfold ocS at h; dsimp only at h; rw [forceV_eq] at h; exact h
 | global g =>
  unfold ocS at h
  dsimp only at h
  simp only [opndS]
  cases hb : Nat.blt g G with
  | true => rw [hb] at h; exact h
  | false => rw [hb] at h; exact h
 | func f => exact h
end I
end Go.Proofs.YtinhinjpfmdfiaaGreatDoor
namespace Go.Proofs.YtinhinjpfmdfiaaGreatDoor
namespace I
set_option linter.unusedVariables false
abbrev VK := AV → AV → Nat → Bool
abbrev KC := Nat → List AV → AV → Nat → VK → Bool
def KcOk (Kc : KC) (K : KF) : Prop := ∀ f args h nx k,Kc f args h nx k = true → ∃ v h' nx',K f args h nx = some (v,h',nx') ∧ k v h' nx' = true
def sstep (P : Program) (K : KF) (ρ : Operand → AV) (h : AV) (nx : Nat) (o : Oper) : Option (AV × AV × Nat) :=
 match astep P ρ h nx o with
 | some (.val v h' nx') => some (v,h',nx')
 | some (.call f args) => K f args h nx
 | none => none
structure XC (d : Nat) where
 run : KC → Tr d → AV → Nat → VK → Bool
def XcOk {d : Nat} (P : Program) (ρ : Tr d → Operand → AV) (o : Oper) (x : XC d) : Prop :=
 ∀ Kc K,KcOk Kc K → ∀ t h nx k,x.run Kc t h nx k = true → ∃ v h' nx',sstep P K (ρ t) h nx o = some (v,h',nx') ∧ k v h' nx' = true
section
variable {P : Program} {K : KF} {ρ : Operand → AV} {h : AV} {nx : Nat} {o : Oper}
theorem sstep_pure {v : AV} (e : apure P ρ o = some v) : sstep P K ρ h nx o = some (v,h,nx) := by simp only [sstep,astep,e]
theorem sstep_read {v : AV} (e0 : apure P ρ o = none) (e : aread P ρ h o = some v) : sstep P K ρ h nx o = some (v,h,nx) := by simp only [sstep,astep,e0,e]
theorem sstep_new {nv : NV} {x : AV} (e0 : apure P ρ o = none) (e1 : aread P ρ h o = none) (e : anew P ρ o = some (nv,x)) (hb : Nat.blt nx (2 ^ HD) = true) : sstep P K ρ h nx o = some (nv.at nx,cput HD h nx x,nx + 1) := by
 simp only [sstep,astep,e0,e1,e,hb,cond_true]
theorem sstep_eff {r : AV × AV × Nat} (e0 : apure P ρ o = none) (e1 : aread P ρ h o = none) (e2 : anew P ρ o = none) (e : aeff P ρ h nx o = some r) : sstep P K ρ h nx o = some r := by
 obtain ⟨v,h',nx'⟩ := r
 simp only [sstep,astep,e0,e1,e2,e]
theorem sstep_call {f : Nat} {args : List AV} (e0 : apure P ρ o = none) (e1 : aread P ρ h o = none) (e2 : anew P ρ o = none) (e3 : aeff P ρ h nx o = none) (e : acallee P ρ h o = some (f,args)) : sstep P K ρ h nx o = K f args h nx := by
 simp only [sstep,astep,e0,e1,e2,e3,e]
end
noncomputable def slowE (r : Option SR) (Kc : KC) (h : AV) (nx : Nat) (k : VK) : Bool :=
 match r with
 | some (.val v h' nx') => forceV v fun v => fN nx' fun nx' => k v h' nx'
 | some (.call f args) => Kc f args h nx k
 | none => false
noncomputable def slowC {d : Nat} (P : Program) (ρ : Tr d → Operand → AV) (o : Oper) : XC d := ⟨fun Kc t h nx k => slowE (astep P (ρ t) h nx o) Kc h nx k⟩
def failC {d : Nat} : XC d := ⟨fun _ _ _ _ _ => false⟩
section
variable {d : Nat} {P : Program} {ρ : Tr d → Operand → AV} {o : Oper}
theorem slowC_ok : XcOk P ρ o (slowC P ρ o) := by
 intro Kc K hK t h nx k hh
 unfold slowC at hh
 dsimp only at hh
 unfold slowE at hh
 unfold sstep
 split at hh
 ·rename_i v h' nx' e
  rw [forceV_eq,fN_eq] at hh
  exact ⟨v,h',nx',rfl,hh⟩
 ·rename_i f args e
  obtain ⟨v,h',nx',e1,e2⟩ := hK _ _ _ _ _ hh
  exact ⟨v,h',nx',e1,e2⟩
 ·cases hh
theorem failC_ok : XcOk P ρ o failC := fun _ _ _ _ _ _ _ hh => nomatch (show false = true from hh)
noncomputable def p1 (g : GC d) (F : AV → Option AV) : XC d := @GC.rec d (fun _ => XC d) (fun g => ⟨fun Kc t h nx k => g t fun a => optE (F a) fun v => k v h nx⟩) g
noncomputable def p2 (g g' : GC d) (F : AV → AV → Option AV) : XC d :=
 @GC.rec d (fun _ => XC d) (fun g => @GC.rec d (fun _ => XC d) (fun g' => ⟨fun Kc t h nx k => g t fun a => g' t fun b => optE (F a b) fun v => k v h nx⟩) g') g
noncomputable def p3 (g g' g'' : GC d) (F : AV → AV → AV → Option AV) : XC d :=
 @GC.rec d (fun _ => XC d) (fun g => @GC.rec d (fun _ => XC d) (fun g' => @GC.rec d (fun _ => XC d) (fun g'' => ⟨fun Kc t h nx k => g t fun a => g' t fun b => g'' t fun c => optE (F a b c) fun v => k v h nx⟩) g'') g') g
variable {oc : Operand → GC d} (hoc : OcOk oc ρ)
include hoc
theorem p1_ok {x : Operand} {F : AV → Option AV} (hF : ∀ t,apure P (ρ t) o = F (ρ t x)) : XcOk P ρ o (p1 (oc x) F) := by
 intro Kc K hK t h nx k hh
 have h1 := hoc x t _ hh
 obtain ⟨v,e,h2⟩ := optE_ok h1
 exact ⟨v,h,nx,sstep_pure ((hF t).trans e),h2⟩
theorem p2_ok {x y : Operand} {F : AV → AV → Option AV} (hF : ∀ t,apure P (ρ t) o = F (ρ t x) (ρ t y)) : XcOk P ρ o (p2 (oc x) (oc y) F) := by
 intro Kc K hK t h nx k hh
 have h1 := hoc y t _ (hoc x t _ hh)
 obtain ⟨v,e,h2⟩ := optE_ok h1
 exact ⟨v,h,nx,sstep_pure ((hF t).trans e),h2⟩
theorem p3_ok {x y z : Operand} {F : AV → AV → AV → Option AV} (hF : ∀ t,apure P (ρ t) o = F (ρ t x) (ρ t y) (ρ t z)) : XcOk P ρ o (p3 (oc x) (oc y) (oc z) F) := by
 intro Kc K hK t h nx k hh
 have h1 := hoc z t _ (hoc y t _ (hoc x t _ hh))
 obtain ⟨v,e,h2⟩ := optE_ok h1
 exact ⟨v,h,nx,sstep_pure ((hF t).trans e),h2⟩
noncomputable def mvC (g : GC d) : XC d := @GC.rec d (fun _ => XC d) (fun g => ⟨fun Kc t h nx k => g t fun a => k a h nx⟩) g
theorem mvC_ok {x : Operand} (hF : ∀ t,apure P (ρ t) o = some (ρ t x)) : XcOk P ρ o (mvC (oc x)) := by
 intro Kc K hK t h nx k hh
 exact ⟨_,h,nx,sstep_pure (hF t),hoc x t _ hh⟩
noncomputable def chkC (g : GC d) (B : AV → Bool) : XC d := @GC.rec d (fun _ => XC d) (fun g => ⟨fun Kc t h nx k => g t fun a => bif B a then k a h nx else false⟩) g
theorem chkC_ok {x : Operand} {B : AV → Bool} (hF : ∀ t,B (ρ t x) = true → apure P (ρ t) o = some (ρ t x)) : XcOk P ρ o (chkC (oc x) B) := by
 intro Kc K hK t h nx k hh
 obtain ⟨h1,h2⟩ := cond_ok (hoc x t _ hh)
 exact ⟨_,h,nx,sstep_pure (hF t h1),h2⟩
end
noncomputable def wrapE (k : IntKind) (m : Nat) (c : AV → Bool) : Bool :=
 bif Nat.ble m (maxN k) then fN m fun m => c (.int k (.ofNat m)) else
 bif K.sg k then fI (k.wrap (.ofNat m)) fun r => c (.int k r) else fN (Nat.mod m (Nat.succ (maxN k))) fun r => c (.int k (.ofNat r))
theorem wrap_uns {k : IntKind} {m : Nat} (h : K.sg k = false) : k.wrap (.ofNat m) = .ofNat (m % (maxN k + 1)) := by
 cases k <;> first | (exact nomatch (show true = false from h)) | (simp [IntKind.wrap,IntKind.signed,IntKind.bits,maxN])
theorem wrapE_ok {k : IntKind} {m : Nat} {c : AV → Bool} (h : wrapE k m c = true) : c (.int k (wrapF k (.ofNat m))) = true := by
 unfold wrapE at h
 simp only [wrapF]
 cases hb : Nat.ble m (maxN k) with
 | true => rw [hb] at h; simpa only [cond_true,fN_eq] using h
 | false =>
  rw [hb] at h
  simp only [cond_false] at h ⊢
  cases hs : K.sg k with
  | true => rw [hs] at h; simpa only [cond_true,fI_eq] using h
  | false => rw [hs] at h; rw [wrap_uns hs]; simp only [cond_false,fN_eq] at h; exact h
noncomputable def wrapIE (k : IntKind) (n : Int) (c : AV → Bool) : Bool := @Int.rec (fun _ => Bool) (fun m => wrapE k m c) (fun m => fI (wrapF k (.negSucc m)) fun r => c (.int k r)) n
theorem wrapIE_ok {k : IntKind} {n : Int} {c : AV → Bool} (h : wrapIE k n c = true) : c (.int k (wrapF k n)) = true := by
 cases n with
 | ofNat m => exact wrapE_ok h
 | negSucc m => exact (fI_eq (wrapF k (.negSucc m)) fun r => c (.int k r)).symm.trans h
structure BC where
 run : IntKind → Int → Int → (AV → Bool) → Bool
def BcOk (op : BinOp) (b : BC) : Prop := ∀ k a b' c,b.run k a b' c = true → ∃ v,binI op k a b' = some v ∧ c v = true
noncomputable def addE (k : IntKind) (a b : Int) (c : AV → Bool) : Bool :=
 @Int.rec (fun _ => Bool) (fun m => @Int.rec (fun _ => Bool) (fun n => wrapE k (Nat.add m n) c) (fun _ => fI (wrapF k (a + b)) fun r => c (.int k r)) b) (fun _ => fI (wrapF k (a + b)) fun r => c (.int k r)) a
noncomputable def subE (k : IntKind) (a b : Int) (c : AV → Bool) : Bool :=
 @Int.rec (fun _ => Bool) (fun m => @Int.rec (fun _ => Bool) (fun n => bif Nat.ble n m then wrapE k (Nat.sub m n) c else fI (wrapF k (a - b)) fun r => c (.int k r)) (fun _ => fI (wrapF k (a - b)) fun r => c (.int k r)) b) (fun _ => fI (wrapF k (a - b)) fun r => c (.int k r)) a
noncomputable def bitE (f : Nat → Nat → Nat) (k : IntKind) (a b : Int) (c : AV → Bool) : Bool :=
 natE a fun m => natE b fun n => bif Nat.ble m (maxN k) then bif Nat.ble n (maxN k) then fN (f m n) fun r => c (.int k (.ofNat r)) else false else false
noncomputable def bopC : BinOp → BC
 | .add => ⟨addE⟩
 | .sub => ⟨subE⟩
 | .and => ⟨bitE Nat.land⟩
 | .or => ⟨bitE Nat.lor⟩
 | .xor => ⟨bitE Nat.xor⟩
 | .eql => ⟨fun k a b c => fB (ieq a b) fun r => c (.bool r)⟩
 | .neq => ⟨fun k a b c => fB (!ieq a b) fun r => c (.bool r)⟩
 | .lss => ⟨fun k a b c => fB (ilt a b) fun r => c (.bool r)⟩
 | .leq => ⟨fun k a b c => fB (!ilt b a) fun r => c (.bool r)⟩
 | .gtr => ⟨fun k a b c => fB (ilt b a) fun r => c (.bool r)⟩
 | .geq => ⟨fun k a b c => fB (!ilt a b) fun r => c (.bool r)⟩
 | op => ⟨fun k a b c => optE (binI op k a b) c⟩
theorem fI_true {n : Int} {c : Int → Bool} (h : fI n c = true) : c n = true := (fI_eq n c).symm.trans h
theorem fN_true {n : Nat} {c : Nat → Bool} (h : fN n c = true) : c n = true := (fN_eq n c).symm.trans h
theorem bitE_ok {f : Nat → Nat → Nat} {k : IntKind} {a b : Int} {c : AV → Bool} (h : bitE f k a b c = true) : ∃ m n,inr k a = some m ∧ inr k b = some n ∧ c (.int k (.ofNat (f m n))) = true := by
 obtain ⟨m,rfl,h1⟩ := natE_ok h
 obtain ⟨n,rfl,h2⟩ := natE_ok h1
 obtain ⟨e1,h3⟩ := cond_ok h2
 obtain ⟨e2,h4⟩ := cond_ok h3
 exact ⟨m,n,by simp only [inr,e1,cond_true],by simp only [inr,e2,cond_true],fN_true h4⟩
theorem bopC_ok (op : BinOp) : BcOk op (bopC op) := by
 intro k a b c h
 cases op
 case add =>
  refine ⟨_,rfl,?_⟩
  have h' : addE k a b c = true := h
  cases a with
  | ofNat m =>
   cases b with
   | ofNat n => exact wrapE_ok (m := m + n) h'
   | negSucc n => exact fI_true (c := fun r => c (.int k r)) h'
  | negSucc m => exact fI_true (c := fun r => c (.int k r)) h'
 case sub =>
  refine ⟨_,rfl,?_⟩
  have h' : subE k a b c = true := h
  cases a with
  | ofNat m =>
   cases b with
   | ofNat n =>
    have h2 : (bif Nat.ble n m then wrapE k (Nat.sub m n) c else fI (wrapF k (.ofNat m - .ofNat n)) fun r => c (.int k r)) = true := h'
    cases hb : Nat.ble n m with
    | true =>
     rw [hb] at h2
     have hle := ble_iff.1 hb
     have := wrapE_ok (m := m - n) h2
     rwa [show (Int.ofNat m - Int.ofNat n : Int) = Int.ofNat (m - n) by simp only [Int.ofNat_eq_natCast]; omega]
    | false => rw [hb] at h2; exact fI_true (c := fun r => c (.int k r)) h2
   | negSucc n => exact fI_true (c := fun r => c (.int k r)) h'
  | negSucc m => exact fI_true (c := fun r => c (.int k r)) h'
 case and => obtain ⟨m,n,e1,e2,h1⟩ := bitE_ok (show bitE Nat.land k a b c = true from h); exact ⟨_,by simp only [binI,e1,e2],h1⟩
 case or => obtain ⟨m,n,e1,e2,h1⟩ := bitE_ok (show bitE Nat.lor k a b c = true from h); exact ⟨_,by simp only [binI,e1,e2],h1⟩
 case xor => obtain ⟨m,n,e1,e2,h1⟩ := bitE_ok (show bitE Nat.xor k a b c = true from h); exact ⟨_,by simp only [binI,e1,e2],h1⟩
 case eql => exact ⟨_,rfl,(fB_eq _ fun r => c (.bool r)).symm.trans h⟩
 case neq => exact ⟨_,rfl,(fB_eq _ fun r => c (.bool r)).symm.trans h⟩
 case lss => exact ⟨_,rfl,(fB_eq _ fun r => c (.bool r)).symm.trans h⟩
 case leq => exact ⟨_,rfl,(fB_eq _ fun r => c (.bool r)).symm.trans h⟩
 case gtr => exact ⟨_,rfl,(fB_eq _ fun r => c (.bool r)).symm.trans h⟩
 case geq => exact ⟨_,rfl,(fB_eq _ fun r => c (.bool r)).symm.trans h⟩
 all_goals exact optE_ok h
noncomputable def shC (op : BinOp) : BC :=
 match op with
 | .shl => ⟨fun k a b c => natE b fun n => bif Nat.ble n k.bits then natE a fun m => wrapE k (Nat.mul m (Nat.pow 2 n)) c else false⟩
 | .shr => ⟨fun k a b c => natE b fun n => bif Nat.ble n k.bits then natE a fun m => fN (Nat.div m (Nat.pow 2 n)) fun r => c (.int k (.ofNat r)) else false⟩
 | op => ⟨fun k a b c => optE (shI op k a b) c⟩
theorem shC_ok (op : BinOp) {k : IntKind} {a b : Int} {c : AV → Bool} (h : (shC op).run k a b c = true) : ∃ v,shI op k a b = some v ∧ c v = true := by
 unfold shC at h
 split at h
 ·obtain ⟨n,rfl,h1⟩ := natE_ok h
  obtain ⟨e1,h2⟩ := cond_ok h1
  obtain ⟨m,rfl,h3⟩ := natE_ok h2
  exact ⟨_,by simp only [shI,e1,cond_true]; rfl,wrapE_ok h3⟩
 ·obtain ⟨n,rfl,h1⟩ := natE_ok h
  obtain ⟨e1,h2⟩ := cond_ok h1
  obtain ⟨m,rfl,h3⟩ := natE_ok h2
  exact ⟨_,by simp only [shI,e1,cond_true]; rfl,fN_true h3⟩
 ·exact optE_ok h
section
variable {d : Nat} {P : Program} {ρ : Tr d → Operand → AV} {o : Oper} {oc : Operand → GC d}
noncomputable def ibC (b : BC) (g g' : GC d) : XC d :=
 @BC.rec (fun _ => XC d) (fun f => @GC.rec d (fun _ => XC d) (fun g => @GC.rec d (fun _ => XC d) (fun g' => ⟨fun Kc t h nx k => g t fun a => intE a fun ka na => g' t fun b => intE b fun kb nb =>
  bif Nat.beq (kn ka) (kn kb) then f ka na nb fun v => k v h nx else false⟩) g') g) b
noncomputable def isC (b : BC) (g g' : GC d) : XC d :=
 @BC.rec (fun _ => XC d) (fun f => @GC.rec d (fun _ => XC d) (fun g => @GC.rec d (fun _ => XC d) (fun g' => ⟨fun Kc t h nx k => g t fun a => intE a fun ka na => g' t fun b => intE b fun kb nb =>
  f ka na nb fun v => k v h nx⟩) g') g) b
noncomputable def binC (P : Program) (op : BinOp) (ty : TypeId) (g g' : GC d) : XC d :=
 match P.underlying ty with
 | some (.int _) => bif isSh op then isC (shC op) g g' else ibC (bopC op) g g'
 | _ => p2 g g' (abin P op ty)
theorem binC_ok (hoc : OcOk oc ρ) {op : BinOp} {ty yt : TypeId} {x y : Operand} (ho : o.op = .binOp op ty x y yt) : XcOk P ρ o (binC P op ty (oc x) (oc y)) := by
 have hp : ∀ t,apure P (ρ t) o = abin P op ty (ρ t x) (ρ t y) := fun t => by simp only [apure,ho]
 unfold binC
 split
 ·cases hs : isSh op with
  | true =>
   simp only [cond_true]
   intro Kc K hK t h nx k hh
   obtain ⟨ka,na,e1,h1⟩ := intE_ok (hoc x t _ hh)
   obtain ⟨kb,nb,e2,h2⟩ := intE_ok (hoc y t _ h1)
   obtain ⟨v,e3,h3⟩ := shC_ok op h2
   exact ⟨v,h,nx,sstep_pure ((hp t).trans (by rw [e1,e2]; simp only [abin,hs,cond_true,e3])),h3⟩
  | false =>
   simp only [cond_false]
   intro Kc K hK t h nx k hh
   obtain ⟨ka,na,e1,h1⟩ := intE_ok (hoc x t _ hh)
   obtain ⟨kb,nb,e2,h2⟩ := intE_ok (hoc y t _ h1)
   obtain ⟨e4,h3⟩ := cond_ok h2
   obtain ⟨v,e3,h3⟩ := bopC_ok op _ _ _ _ h3
   exact ⟨v,h,nx,sstep_pure ((hp t).trans (by rw [e1,e2]; simp only [abin,hs,cond_false,e4,cond_true,e3])),h3⟩
 ·exact p2_ok hoc hp
noncomputable def convC (P : Program) (ρ : Tr d → Operand → AV) (o : Oper) (src dst : TypeId) (g : GC d) : XC d :=
 match P.underlying src,P.underlying dst with
 | some (.int _),some (.int k') => @GC.rec d (fun _ => XC d) (fun g => ⟨fun Kc t h nx k => g t fun a => intE a fun _ n => wrapIE k' n fun v => k v h nx⟩) g
 | _,_ => slowC P ρ o
theorem convC_ok (hoc : OcOk oc ρ) {src dst : TypeId} {x : Operand} (ho : o.op = .convert src dst x) : XcOk P ρ o (convC P ρ o src dst (oc x)) := by
 unfold convC
 split
 ·rename_i k0 k' h1 h2
  intro Kc K hK t h nx k hh
  obtain ⟨ka,na,e1,h3⟩ := intE_ok (hoc x t _ hh)
  refine ⟨_,h,nx,sstep_pure (v := .int k' (wrapF k' na)) ?_,wrapIE_ok h3⟩
  simp only [apure,ho,h1,h2,e1]
 ·exact slowC_ok
def okNil : AV → Bool
 | .ptr _ _ | .fn .. | .ifc .. => true
 | _ => false
noncomputable def faC (P : Program) (s : TypeId) (f : Nat) (g : GC d) : XC d :=
 match P.underlying s with
 | some (.struct fs) => match fs[f]? with
  | some fl => match P.info? fl.type with
   | some inf => bif Nat.beq inf.size 0 then failC else fN fl.offset fun o' => @GC.rec d (fun _ => XC d) (fun g => ⟨fun Kc t h nx k => g t fun a => ptrE a fun b off => fN (Nat.add off o') fun o' => k (.ptr b o') h nx⟩) g
   | none => failC
  | none => failC
 | _ => failC
theorem faC_ok (hoc : OcOk oc ρ) {s : TypeId} {x : Operand} {f : Nat} (ho : o.op = .fieldAddr s x f) : XcOk P ρ o (faC P s f (oc x)) := by
 unfold faC
 split
 ·rename_i fs hu
  split
  ·rename_i fl hf
   split
   ·rename_i inf hi
    cases hb : Nat.beq inf.size 0 with
    | true => exact failC_ok
    | false =>
     simp only [cond_false,fN_eq]
     intro Kc K hK t h nx k hh
     obtain ⟨b,off,e1,h1⟩ := ptrE_ok (hoc x t _ hh)
     refine ⟨_,h,nx,sstep_pure (v := .ptr b (off + fl.offset)) ?_,h1⟩
     simp only [apure,ho,hu,e1,hf,hi,hb,cond_false]
   ·exact failC_ok
  ·exact failC_ok
 ·exact failC_ok
noncomputable def iaC (P : Program) (ty : TypeId) (g g' : GC d) : XC d :=
 match P.underlying ty with
 | some (.slice e) => match P.info? e with
  | some inf => fN inf.size fun sz => @GC.rec d (fun _ => XC d) (fun g => @GC.rec d (fun _ => XC d) (fun g' => ⟨fun Kc t h nx k => g t fun a => slE a fun b off len _ sz' => g' t fun i => intE i fun _ n => natE n fun i =>
    bif Nat.beq sz sz' && Nat.blt i len then fN (Nat.add off (Nat.mul i sz')) fun o' => k (.ptr b o') h nx else false⟩) g') g
  | none => failC
 | some (.array len e) => match P.info? e with
  | some inf => fN inf.size fun sz => fN len fun len => @GC.rec d (fun _ => XC d) (fun g => @GC.rec d (fun _ => XC d) (fun g' => ⟨fun Kc t h nx k => g t fun a => ptrE a fun b off => g' t fun i => intE i fun _ n => natE n fun i =>
    bif Nat.blt i len then fN (Nat.add off (Nat.mul i sz)) fun o' => k (.ptr b o') h nx else false⟩) g') g
  | none => failC
 | _ => failC
theorem iaC_ok (hoc : OcOk oc ρ) {ty : TypeId} {x y : Operand} (ho : o.op = .indexAddr ty x y) : XcOk P ρ o (iaC P ty (oc x) (oc y)) := by
 unfold iaC
 split
 ·rename_i e hu
  split
  ·rename_i inf hi
   simp only [fN_eq]
   intro Kc K hK t h nx k hh
   obtain ⟨b,off,len,lb,sz,e1,h1⟩ := slE_ok (hoc x t _ hh)
   obtain ⟨k',n,e2,h2⟩ := intE_ok (hoc y t _ h1)
   obtain ⟨i,rfl,h3⟩ := natE_ok h2
   obtain ⟨e3,h4⟩ := cond_ok h3
   refine ⟨_,h,nx,sstep_pure (v := .ptr b (off + i * sz)) ?_,h4⟩
   simp only [apure,ho,hu,e1,e2,hi,e3,cond_true]
  ·exact failC_ok
 ·rename_i len e hu
  split
  ·rename_i inf hi
   simp only [fN_eq]
   intro Kc K hK t h nx k hh
   obtain ⟨b,off,e1,h1⟩ := ptrE_ok (hoc x t _ hh)
   obtain ⟨k',n,e2,h2⟩ := intE_ok (hoc y t _ h1)
   obtain ⟨i,rfl,h3⟩ := natE_ok h2
   obtain ⟨e3,h4⟩ := cond_ok h3
   refine ⟨_,h,nx,sstep_pure (v := .ptr b (off + i * inf.size)) ?_,h4⟩
   simp only [apure,ho,hu,e1,e2,hi,e3,cond_true]
  ·exact failC_ok
 ·exact failC_ok
noncomputable def ixC (P : Program) (ty : TypeId) (g g' : GC d) : XC d :=
 match P.underlying ty with
 | some .string => @GC.rec d (fun _ => XC d) (fun g => @GC.rec d (fun _ => XC d) (fun g' => ⟨fun Kc t h nx k => g t fun a => strE a fun n s => g' t fun i => intE i fun _ m => natE m fun i =>
    bif Nat.blt i n then fN (Nat.mod (Nat.div s (Nat.pow 256 (Nat.sub (Nat.sub n 1) i))) 256) fun r => k (.int .u8 (.ofNat r)) h nx else false⟩) g') g
 | some (.array len e) => match P.info? e with
  | some inf => @GC.rec d (fun _ => XC d) (fun g => @GC.rec d (fun _ => XC d) (fun g' => ⟨fun Kc t h nx k => g t fun a => aggE a fun n u => g' t fun i => intE i fun _ m => natE m fun i =>
    bif Nat.blt i len then optE (apartA P e n u (i * inf.size)) fun v => k v h nx else false⟩) g') g
  | none => failC
 | _ => failC
theorem ixC_ok (hoc : OcOk oc ρ) {ty : TypeId} {x y : Operand} (ho : o.op = .index ty x y) : XcOk P ρ o (ixC P ty (oc x) (oc y)) := by
 unfold ixC
 split
 ·rename_i hu
  intro Kc K hK t h nx k hh
  obtain ⟨n,s,e1,h1⟩ := strE_ok (hoc x t _ hh)
  obtain ⟨k',m,e2,h2⟩ := intE_ok (hoc y t _ h1)
  obtain ⟨i,rfl,h3⟩ := natE_ok h2
  obtain ⟨e3,h4⟩ := cond_ok h3
  refine ⟨_,h,nx,sstep_pure (v := .int .u8 (.ofNat (sbyte n s i))) ?_,(fN_eq _ fun r => k (.int .u8 (.ofNat r)) h nx).symm.trans h4⟩
  simp only [apure,ho,hu,e1,e2,e3,cond_true]
 ·rename_i len e hu
  split
  ·rename_i inf hi
   intro Kc K hK t h nx k hh
   obtain ⟨n,u,e1,h1⟩ := aggE_ok (hoc x t _ hh)
   obtain ⟨k',m,e2,h2⟩ := intE_ok (hoc y t _ h1)
   obtain ⟨i,rfl,h3⟩ := natE_ok h2
   obtain ⟨e3,h4⟩ := cond_ok h3
   obtain ⟨v,e4,h5⟩ := optE_ok h4
   refine ⟨v,h,nx,sstep_pure ?_,h5⟩
   simp only [apure,ho,hu,e1,e2,hi,e3,cond_true,e4]
  ·exact failC_ok
 ·exact failC_ok
noncomputable def loadC (P : Program) (ty : TypeId) (g : GC d) : XC d :=
 match P.underlying ty,P.info? ty with
 | some dsc,some inf => bif isA dsc then fN inf.size fun sz => @GC.rec d (fun _ => XC d) (fun g => ⟨fun Kc t h nx k => g t fun a => ptrE a fun b off => cgetK HD h b fun c => cellsE c fun _ n _ u =>
    bif Nat.ble (Nat.add off sz) n then (bif Nat.beq off 0 && Nat.beq sz n then k (.agg sz u) h nx else k (.agg sz (crow (lg n) u off sz)) h nx) else false⟩) g
   else @GC.rec d (fun _ => XC d) (fun g => ⟨fun Kc t h nx k => g t fun a => ptrE a fun b off => cgetK HD h b fun c => cellsE c fun _ n _ u =>
    bif Nat.blt off n then cgetB (lg n) u off fun v => k v h nx else false⟩) g
 | _,_ => failC
theorem csub_self (d : Nat) (t : AV) (off : Nat) : csub d d t off = t := by
 cases d with
 | zero => rfl
 | succ d => simp only [csub,Nat.beq_refl,cond_true]
theorem crow_all (n : Nat) (t : AV) : crow (lg n) t 0 n = t := by
 unfold crow
 rw [Nat.zero_mod,ble_iff.2 (Nat.le_refl (lg n))]
 exact csub_self _ _ _
theorem loadC_ok (hoc : OcOk oc ρ) {ty : TypeId} {x : Operand} (ho : o.op = .load ty x) : XcOk P ρ o (loadC P ty (oc x)) := by
 have h0 : ∀ t,apure P (ρ t) o = none := fun t => by simp only [apure,ho]
 unfold loadC
 split
 ·rename_i dsc inf hu hi
  cases hA : isA dsc with
  | true =>
   simp only [cond_true,fN_eq]
   intro Kc K hK t h nx k hh
   obtain ⟨b,off,e1,h1⟩ := ptrE_ok (hoc x t _ hh)
   have h2 := cgetK_ok h1
   obtain ⟨ety,n,ro,u,e2,h3⟩ := cellsE_ok h2
   obtain ⟨e3,h4⟩ := cond_ok h3
   have e3' : Nat.ble (off + inf.size) n = true := e3
   refine ⟨_,h,nx,sstep_read (h0 t) (v := .agg inf.size (crow (lg n) u off inf.size)) ?_,?_⟩
   ·simp only [aread,ho,e1,e2,apartA,hu,hi,hA,cond_true,e3']
   ·cases hz : (Nat.beq off 0 && Nat.beq inf.size n) with
    | true =>
     rw [hz] at h4
     simp only [Bool.and_eq_true] at hz
     have z1 := beqn_iff.1 hz.1
     have z2 := beqn_iff.1 hz.2
     rw [z1,z2,crow_all]
     rw [z2] at h4
     exact h4
    | false => rw [hz] at h4; exact h4
  | false =>
   simp only [cond_false]
   intro Kc K hK t h nx k hh
   obtain ⟨b,off,e1,h1⟩ := ptrE_ok (hoc x t _ hh)
   have h2 := cgetK_ok h1
   obtain ⟨ety,n,ro,u,e2,h3⟩ := cellsE_ok h2
   obtain ⟨e3,h4⟩ := cond_ok h3
   refine ⟨_,h,nx,sstep_read (h0 t) (v := cget (lg n) u off) ?_,cgetB_ok h4⟩
   simp only [aread,ho,e1,e2,apartA,hu,hi,hA,cond_false,e3,cond_true]
 ·exact failC_ok
theorem cblit1 (d : Nat) (t : AV) (off : Nat) (s : AV) : cblit d t off 1 s = cputs d 0 t off s := by
 unfold cblit
 rw [show lg 1 = 0 from rfl,show Nat.beq 1 (2 ^ 0) = true from rfl,show off % 2 ^ 0 = 0 by simp [Nat.mod_one],show Nat.ble 0 d = true by cases d <;> rfl]
 rfl
theorem cond_not {b c : Bool} (h : (bif b then false else c) = true) : b = false ∧ c = true := by
 cases b with
 | true => exact nomatch (show false = true from h)
 | false => exact ⟨rfl,h⟩
end
end I
end Go.Proofs.YtinhinjpfmdfiaaGreatDoor
namespace Go.Proofs.YtinhinjpfmdfiaaGreatDoor
namespace I
set_option linter.unusedVariables false
section
variable {d : Nat} {P : Program} {ρ : Tr d → Operand → AV} {o : Oper} {oc : Operand → GC d}
noncomputable def rowSt (P : Program) (sz : Nat) (h : AV) (b off m : Nat) (s : AV) (nx : Nat) (k : VK) : Bool :=
 cgetK HD h b fun c => cellsE c fun ety n ro u => bif ro then false else bif Nat.beq m sz && Nat.ble (Nat.add off m) n then cputK HD h b (.cells ety n false (cblit (lg n) u off m s)) fun h' => k .undef h' nx else false
noncomputable def stC (P : Program) (ty : TypeId) (g g' : GC d) : XC d :=
 match P.info? ty with
 | some inf => fN inf.size fun sz =>
   @GC.rec d (fun _ => XC d) (fun g => @GC.rec d (fun _ => XC d) (fun g' => ⟨fun Kc t h nx k => g t fun a => ptrE a fun b off => g' t fun v => bif scalarA v then
    bif Nat.beq 1 sz then cgetK HD h b fun c => cellsE c fun ety n ro u => bif ro then false else bif Nat.ble (Nat.succ off) n then cputB (lg n) u off v fun u' => cputK HD h b (.cells ety n false u') fun h' => k .undef h' nx else false else false
    else aggE v fun m s => rowSt P sz h b off m s nx k⟩) g') g
 | none => failC
theorem rowA_scalar {v : AV} (h : scalarA v = true) : rowA v = some (1,v) := by
 cases v <;> first | (exact nomatch (show false = true from h)) | (simp only [rowA,h,cond_true])
theorem stC_ok (hoc : OcOk oc ρ) {ty : TypeId} {x y : Operand} (ho : o.op = .store ty x y) : XcOk P ρ o (stC P ty (oc x) (oc y)) := by
 have h0 : ∀ t,apure P (ρ t) o = none := fun t => by simp only [apure,ho]
 have h1 : ∀ t h,aread P (ρ t) h o = none := fun t h => by simp only [aread,ho]
 have h2 : ∀ t,anew P (ρ t) o = none := fun t => by simp only [anew,ho]
 unfold stC
 split
 ·rename_i inf hi
  rw [fN_eq]
  intro Kc K hK t h nx k hh
  obtain ⟨b,off,e1,g1⟩ := ptrE_ok (hoc x t _ hh)
  have g2 := hoc y t _ g1
  cases hs : scalarA (ρ t y) with
  | true =>
   rw [hs] at g2
   obtain ⟨e2,g3⟩ := cond_ok (show (bif Nat.beq 1 inf.size then _ else false) = true from g2)
   obtain ⟨ety,n,ro,u,e3,g4⟩ := cellsE_ok (cgetK_ok g3)
   obtain ⟨rfl,g5⟩ := cond_not g4
   obtain ⟨e4,g6⟩ := cond_ok g5
   have g7 := cputK_ok (cputB_ok g6)
   have e4' : Nat.ble (off + 1) n = true := e4
   refine ⟨_,_,_,sstep_eff (h0 t) (h1 t h) (h2 t) (r := (.undef,cput HD h b (.cells ety n false (cputs (lg n) 0 u off (ρ t y))),nx)) ?_,g7⟩
   simp only [aeff,ho,e1,rowA_scalar hs,hi,e3,e2,e4',Bool.and_self,cond_true,cblit1]
  | false =>
   rw [hs] at g2
   obtain ⟨m,s,e2,g3⟩ := aggE_ok (show aggE (ρ t y) _ = true from g2)
   obtain ⟨ety,n,ro,u,e3,g4⟩ := cellsE_ok (cgetK_ok g3)
   obtain ⟨rfl,g5⟩ := cond_not g4
   obtain ⟨e4,g6⟩ := cond_ok g5
   have g7 := cputK_ok g6
   have e4' : (Nat.beq m inf.size && Nat.ble (off + m) n) = true := e4
   refine ⟨_,_,_,sstep_eff (h0 t) (h1 t h) (h2 t) (r := (.undef,cput HD h b (.cells ety n false (cblit (lg n) u off m s)),nx)) ?_,g7⟩
   simp only [aeff,ho,e1,e2,rowA,hi,e3,e4',cond_true]
 ·exact failC_ok
noncomputable def newE (r : Option (NV × AV)) (h : AV) (nx : Nat) (k : VK) : Bool :=
 match r with
 | some (nv,x) => bif Nat.blt nx (2 ^ HD) then cputK HD h nx x fun h' => fN (Nat.succ nx) fun nx' => forceV (nv.at nx) fun v => k v h' nx' else false
 | none => false
noncomputable def newC (P : Program) (ρ : Tr d → Operand → AV) (o : Oper) : XC d := ⟨fun Kc t h nx k => newE (anew P (ρ t) o) h nx k⟩
theorem newC_ok (h0 : ∀ t,apure P (ρ t) o = none) (h1 : ∀ t h,aread P (ρ t) h o = none) : XcOk P ρ o (newC P ρ o) := by
 intro Kc K hK t h nx k hh
 have hh' : newE (anew P (ρ t) o) h nx k = true := hh
 unfold newE at hh'
 split at hh'
 ·rename_i nv x e
  obtain ⟨e1,g1⟩ := cond_ok hh'
  have g2 := cputK_ok g1
  rw [fN_eq,forceV_eq] at g2
  exact ⟨_,_,_,sstep_new (h0 t) (h1 t h) e e1,g2⟩
 ·cases hh'
structure AC (d : Nat) where
 run : Tr d → (List AV → Bool) → Bool
noncomputable def argC (oc : Operand → GC d) : List Operand → AC d
 | [] => ⟨fun _ k => k []⟩
 | x :: l => @GC.rec d (fun _ => AC d) (fun g => @AC.rec d (fun _ => AC d) (fun f => ⟨fun t k => g t fun a => f t fun asx => k (a :: asx)⟩) (argC oc l)) (oc x)
theorem argC_ok (hoc : OcOk oc ρ) : ∀ (l : List Operand) (t : Tr d) (k : List AV → Bool),(argC oc l).run t k = true → k (l.map (ρ t)) = true
 | [],t,k,h => h
 | x :: l,t,k,h => by
  have h1 := hoc x t _ h
  exact argC_ok hoc l t _ h1
def bodied (P : Program) (f : Nat) : Bool :=
 match P.funcs[f]? with
 | some fn => fn.body.isSome
 | none => false
noncomputable def callF (f : Nat) (a : AC d) : XC d := fN (Nat.mul 2 f) fun f => @AC.rec d (fun _ => XC d) (fun a => ⟨fun Kc t h nx k => a t fun asx => Kc f asx h nx k⟩) a
theorem aeff_bodied {h : AV} {nx f : Nat} {ρ : Operand → AV} {args : Array Operand} {tys : Array TypeId} (hb : bodied P f = true) (ho : o.op = .call ⟨.value (.func f),args,tys⟩) : aeff P ρ h nx o = none := by
 obtain ⟨dst,op,oty,pos,after,guard⟩ := o
 simp only at ho
 subst ho
 unfold bodied at hb
 split at hb
 ·rename_i fn hf
  have hn : fn.body.isNone = false := by cases hx : fn.body <;> simp_all
  match args with
  | ⟨[]⟩ => rfl
  | ⟨[x]⟩ => simp only [aeff,hf,hn,Bool.false_and,cond_false]
  | ⟨[x,y]⟩ => simp only [aeff,hf,hn,Bool.false_and,cond_false]
  | ⟨x :: y :: z :: l⟩ => rfl
 ·cases hb
theorem callF_ok (hoc : OcOk oc ρ) (hof : ∀ t f,ρ t (.func f) = .fn f .lnil .lnil) {f : Nat} {args : Array Operand} {tys : Array TypeId} (hb : bodied P f = true) (ho : o.op = .call ⟨.value (.func f),args,tys⟩) : XcOk P ρ o (callF f (argC oc args.toList)) := by
 unfold callF
 rw [fN_eq]
 intro Kc K hK t h nx k hh
 have h1 := argC_ok hoc _ t _ hh
 obtain ⟨v,h',nx',e1,e2⟩ := hK _ _ _ _ _ h1
 refine ⟨v,h',nx',?_,e2⟩
 rw [sstep_call (f := 2 * f) (args := args.toList.map (ρ t))]
 ·exact e1
 ·simp only [apure,ho]
 ·simp only [aread,ho]
 ·simp only [anew,ho]
 ·exact aeff_bodied hb ho
 ·simp only [acallee,ho,hof,toList,List.nil_append,List.append_nil]
noncomputable def fnE (P : Program) (h : AV) (v : AV) (asx : List AV) (c : Nat → List AV → Bool) : Bool :=
 match v with
 | .fn g first caps => fN (Nat.mul 2 g) fun f => c f (toList first ++ (asx ++ toList caps))
 | .yld b => fN (Nat.succ (Nat.mul 2 b)) fun f => c f asx
 | .mth s (.ifc t v) => match methodA P h t v s with
  | some (g,r) => fN (Nat.mul 2 g) fun f => c f (r :: asx)
  | none => false
 | _ => false
noncomputable def callV (P : Program) (g : GC d) (a : AC d) : XC d := @GC.rec d (fun _ => XC d) (fun g => @AC.rec d (fun _ => XC d) (fun a => ⟨fun Kc t h nx k => g t fun v => a t fun asx => fnE P h v asx fun f asx => Kc f asx h nx k⟩) a) g
theorem callV_ok (hoc : OcOk oc ρ) {x : Nat} {args : Array Operand} {tys : Array TypeId} (ho : o.op = .call ⟨.value (.tmp x),args,tys⟩) : XcOk P ρ o (callV P (oc (.tmp x)) (argC oc args.toList)) := by
 intro Kc K hK t h nx k hh
 have h1 := argC_ok hoc _ t _ (hoc (.tmp x) t _ hh)
 have a0 : apure P (ρ t) o = none := by simp only [apure,ho]
 have a1 : aread P (ρ t) h o = none := by simp only [aread,ho]
 have a2 : anew P (ρ t) o = none := by simp only [anew,ho]
 have a3 : aeff P (ρ t) h nx o = none := by simp only [aeff,ho]
 unfold fnE at h1
 split at h1
 ·rename_i g first caps e
  rw [fN_eq] at h1
  obtain ⟨v,h',nx',e1,e2⟩ := hK _ _ _ _ _ h1
  refine ⟨v,h',nx',?_,e2⟩
  rw [sstep_call a0 a1 a2 a3 (f := 2 * g) (args := toList first ++ (args.toList.map (ρ t) ++ toList caps))]
  ·exact e1
  ·simp only [acallee,ho,e]
 ·rename_i b e
  rw [fN_eq] at h1
  obtain ⟨v,h',nx',e1,e2⟩ := hK _ _ _ _ _ h1
  refine ⟨v,h',nx',?_,e2⟩
  rw [sstep_call a0 a1 a2 a3 (f := 2 * b + 1) (args := args.toList.map (ρ t))]
  ·exact e1
  ·simp only [acallee,ho,e]
 ·rename_i s t0 v0 e
  split at h1
  ·rename_i g r hm
   rw [fN_eq] at h1
   obtain ⟨v,h',nx',e1,e2⟩ := hK _ _ _ _ _ h1
   refine ⟨v,h',nx',?_,e2⟩
   rw [sstep_call a0 a1 a2 a3 (f := 2 * g) (args := r :: args.toList.map (ρ t))]
   ·exact e1
   ·simp only [acallee,ho,e,hm]
  ·cases h1
 ·cases h1
def lenStr (P : Program) (ty : TypeId) (x : AV) : Option AV :=
 match P.underlying ty,x with
  | some .string,.str n _ => some (.int .i64 (.ofNat n))
  | some (.slice _),.sl _ _ n _ _ => some (.int .i64 (.ofNat n))
  | some (.slice _),.nils => some (.int .i64 0)
  | some (.map _ _),.nilm => some (.int .i64 0)
  | some (.array n _),_ => some (.int .i64 (.ofNat n))
  | _,_ => none
def isMapT (P : Program) (ty : TypeId) : Bool :=
 match P.underlying ty with
 | some (.map _ _) => true
 | _ => false
def extr (i : Nat) (x : AV) : Option AV :=
 match x with
 | .tup l => (toList l)[i]?
 | _ => none
def notV (x : AV) : Option AV :=
 match x with
 | .bool b => some (.bool (!b))
 | _ => none
def fldV (P : Program) (s : TypeId) (f : Nat) (x : AV) : Option AV :=
 match P.underlying s,x with
  | some (.struct fs),.agg n t => match fs[f]? with
   | some fl => apartA P fl.type n t fl.offset
   | none => none
  | _,_ => none
def pickV (c a b : AV) : Option AV :=
 match c with
  | .bool t => some (bif t then a else b)
  | _ => none
noncomputable def cop (P : Program) (ρ : Tr d → Operand → AV) (oc : Operand → GC d) (o : Oper) : XC d :=
 match o.op with
 | .move x => mvC (oc x)
 | .assign x => mvC (oc x)
 | .pick c a b => p3 (oc c) (oc a) (oc b) pickV
 | .nilCheck x => chkC (oc x) okNil
 | .binOp op ty x y _ => binC P op ty (oc x) (oc y)
 | .unOp .not _ x => p1 (oc x) notV
 | .convert src dst x => convC P ρ o src dst (oc x)
 | .fieldAddr s x f => faC P s f (oc x)
 | .field s x f => p1 (oc x) (fldV P s f)
 | .indexAddr ty x i => iaC P ty (oc x) (oc i)
 | .index ty x i => ixC P ty (oc x) (oc i)
 | .extract x i => p1 (oc x) (extr i)
 | .load ty x => loadC P ty (oc x)
 | .store ty x y => stC P ty (oc x) (oc y)
 | .alloc _ => newC P ρ o
 | .box _ _ => newC P ρ o
 | .buildSlice _ _ _ => newC P ρ o
 | .makeMap _ _ => newC P ρ o
 | .makeSlice _ _ _ => newC P ρ o
 | .call ⟨.value (.func f),args,_⟩ => bif bodied P f then callF f (argC oc args.toList) else slowC P ρ o
 | .call ⟨.value (.tmp x),args,_⟩ => callV P (oc (.tmp x)) (argC oc args.toList)
 | .call ⟨.builtin .len,⟨[x]⟩,⟨[ty]⟩⟩ => bif isMapT P ty then slowC P ρ o else p1 (oc x) (lenStr P ty)
 | _ => slowC P ρ o
theorem cop_ok (hoc : OcOk oc ρ) (hof : ∀ t f,ρ t (.func f) = .fn f .lnil .lnil) : XcOk P ρ o (cop P ρ oc o) := by
 unfold cop
 split
 ·rename_i x ho; exact mvC_ok hoc (fun t => by simp only [apure,ho])
 ·rename_i x ho; exact mvC_ok hoc (fun t => by simp only [apure,ho])
 ·rename_i c a b ho; exact p3_ok hoc (fun t => by simp only [apure,ho]; rfl)
 ·rename_i x ho
  refine chkC_ok hoc (fun t hB => ?_)
  simp only [apure,ho]
  unfold okNil at hB
  split at hB <;> first | rfl | (rename_i e; rw [e]) | cases hB
 ·rename_i op ty x y yt ho; exact binC_ok hoc ho
 ·rename_i ty x ho; exact p1_ok hoc (fun t => by simp only [apure,ho]; rfl)
 ·rename_i src dst x ho; exact convC_ok hoc ho
 ·rename_i s x f ho; exact faC_ok hoc ho
 ·rename_i s x f ho; exact p1_ok hoc (fun t => by simp only [apure,ho]; rfl)
 ·rename_i ty x i ho; exact iaC_ok hoc ho
 ·rename_i ty x i ho; exact ixC_ok hoc ho
 ·rename_i x i ho; exact p1_ok hoc (fun t => by simp only [apure,ho]; rfl)
 ·rename_i ty x ho; exact loadC_ok hoc ho
 ·rename_i ty x y ho; exact stC_ok hoc ho
 ·rename_i t ho; exact newC_ok (fun t => by simp only [apure,ho]) (fun t h => by simp only [aread,ho])
 ·rename_i t x ho; exact newC_ok (fun t => by simp only [apure,ho]) (fun t h => by simp only [aread,ho])
 ·rename_i t l ps ho; exact newC_ok (fun t => by simp only [apure,ho]) (fun t h => by simp only [aread,ho])
 ·rename_i t x ho; exact newC_ok (fun t => by simp only [apure,ho]) (fun t h => by simp only [aread,ho])
 ·rename_i t l c ho; exact newC_ok (fun t => by simp only [apure,ho]) (fun t h => by simp only [aread,ho])
 ·rename_i f args tys ho
  cases hb : bodied P f with
  | true => exact callF_ok hoc hof hb ho
  | false => exact slowC_ok
 ·rename_i x args tys ho; exact callV_ok hoc ho
 ·rename_i x ty ho
  cases hm : isMapT P ty with
  | true => exact slowC_ok
  | false => exact p1_ok hoc (fun t => by simp only [apure,ho]; rfl)
 ·exact slowC_ok
end
end I
end Go.Proofs.YtinhinjpfmdfiaaGreatDoor
namespace Go.Proofs.YtinhinjpfmdfiaaGreatDoor
namespace I
set_option linter.unusedVariables false
structure LC (d : Nat) where
 run : KC → KF → Tr d → AV → Nat → (Tr d → AV → Nat → Bool) → Bool
def failL {d : Nat} : LC d := ⟨fun _ _ _ _ _ _ => false⟩
def guardE (c : AV) (want yes no : Bool) : Bool :=
 match c with
 | .bool b => bif b == want then yes else no
 | .bad => false
 | _ => no
noncomputable def opC (n d : Nat) (ops : Array Oper) (x : XC d) (o : Oper) (l : LC d) : LC d :=
 match o.guard with
 | none => @LC.rec d (fun _ => LC d) (fun g => @XC.rec d (fun _ => LC d) (fun r => @PC.rec d (fun _ => LC d) (fun p => ⟨fun Kc K t h nx k => r Kc t h nx fun v h nx => p t v fun t => g Kc K t h nx k⟩) (dstC n d o.dst)) x) l
 | some (j,want) => match (ops[j]?).bind (·.dst) with
  | none => failL
  | some i => bif Nat.blt i n then @LC.rec d (fun _ => LC d) (fun g => @XC.rec d (fun _ => LC d) (fun r => @PC.rec d (fun _ => LC d) (fun p => @GC.rec d (fun _ => LC d) (fun gg =>
    ⟨fun Kc K t h nx k => gg t fun c => guardE c want (r Kc t h nx fun v h nx => p t v fun t => g Kc K t h nx k) (p t .undef fun t => g Kc K t h nx k)⟩) (getC d i)) (dstC n d o.dst)) x) l
   else failL
section
variable {P : Program} {G n d : Nat}
theorem opC_ok {ρ : Tr d → Operand → AV} {ops : Array Oper} {x : XC d} {o : Oper} {l : LC d} (hx : XcOk P ρ o x) {Kc : KC} {K : KF} (hK : KcOk Kc K) {t : Tr d} {h : AV} {nx : Nat} {k : Tr d → AV → Nat → Bool}
  (hh : (opC n d ops x o l).run Kc K t h nx k = true) :
  (∃ v h' nx' t',wantA n d ops (av d t) o = some true ∧ sstep P K (ρ t) h nx o = some (v,h',nx') ∧ av d t' = putA n d (av d t) o.dst v ∧ l.run Kc K t' h' nx' k = true) ∨
  ∃ t',wantA n d ops (av d t) o = some false ∧ av d t' = putA n d (av d t) o.dst .undef ∧ l.run Kc K t' h nx k = true := by
 unfold opC at hh
 split at hh
 ·rename_i hg
  obtain ⟨v,h',nx',e1,h1⟩ := hx Kc K hK t h nx _ hh
  obtain ⟨t',e2,h2⟩ := dstC_ok n d o.dst t v h1
  exact .inl ⟨v,h',nx',t',by simp only [wantA,hg],e1,e2,h2⟩
 ·rename_i j want hg
  split at hh
  ·exact nomatch (show false = true from hh)
  ·rename_i i hi
   cases hb : Nat.blt i n with
   | false => rw [hb] at hh; exact nomatch (show false = true from hh)
   | true =>
    rw [hb] at hh
    have h1 := (getC_run d i t (fun c => guardE c want (x.run Kc t h nx fun v h nx => (dstC n d o.dst).run t v fun t => l.run Kc K t h nx k) ((dstC n d o.dst).run t .undef fun t => l.run Kc K t h nx k))).symm.trans hh
    simp only [wantA,hg,hi,hb,cond_true]
    unfold guardE at h1
    split at h1
    ·rename_i b hc
     rw [hc]
     cases hw : (b == want) with
     | true =>
      rw [hw] at h1
      obtain ⟨v,h',nx',e1,h1⟩ := hx Kc K hK t h nx _ h1
      obtain ⟨t',e2,h2⟩ := dstC_ok n d o.dst t v h1
      exact .inl ⟨v,h',nx',t',by simp only [hw],e1,e2,h2⟩
     | false =>
      rw [hw] at h1
      obtain ⟨t',e2,h2⟩ := dstC_ok n d o.dst t .undef h1
      exact .inr ⟨t',by simp only [hw],e2,h2⟩
    ·cases h1
    ·rename_i hn1 hn2
     obtain ⟨t',e2,h2⟩ := dstC_ok n d o.dst t .undef h1
     refine .inr ⟨t',?_,e2,h2⟩
     split
     ·rename_i b hc; exact absurd hc (hn1 b)
     ·rename_i hc; exact absurd hc hn2
     ·rfl
noncomputable def opsC (P : Program) (G n d : Nat) (ops : Array Oper) : List Oper → LC d
 | [] => ⟨fun _ _ t h nx k => k t h nx⟩
 | o :: l => opC n d ops (cop P (fun t => opndA G n d (av d t)) (ocA G n d) o) o (opsC P G n d ops l)
theorem opsC_ok {ops : Array Oper} {Kc : KC} {K : KF} (hK : KcOk Kc K) : ∀ (l : List Oper) {t : Tr d} {h : AV} {nx : Nat} {k : Tr d → AV → Nat → Bool},(opsC P G n d ops l).run Kc K t h nx k = true →
  ∃ t' h' nx',opsA P G n d K ops l (av d t) h nx = some (av d t',h',nx') ∧ k t' h' nx' = true
 | [],t,h,nx,k,hh => ⟨t,h,nx,rfl,hh⟩
 | o :: l,t,h,nx,k,hh => by
  rcases opC_ok (P := P) (cop_ok (ocA_ok G n d) (fun _ _ => rfl)) hK hh with ⟨v,h',nx',t',e1,e2,e3,h1⟩ | ⟨t',e1,e3,h1⟩
  ·obtain ⟨t2,h2,nx2,e4,h3⟩ := opsC_ok hK l h1
   refine ⟨t2,h2,nx2,?_,h3⟩
   unfold opsA
   rw [e1]
   simp only
   unfold sstep at e2
   split at e2
   ·rename_i v0 h0 n0 e5
    simp only [Option.some.injEq,Prod.mk.injEq] at e2
    obtain ⟨rfl,rfl,rfl⟩ := e2
    rw [e5]
    simp only
    rw [← e3]; exact e4
   ·rename_i f args e5
    rw [e5]
    simp only
    rw [e2]
    simp only
    rw [← e3]; exact e4
   ·cases e2
  ·obtain ⟨t2,h2,nx2,e4,h3⟩ := opsC_ok hK l h1
   refine ⟨t2,h2,nx2,?_,h3⟩
   unfold opsA
   rw [e1]
   simp only
   rw [← e3]; exact e4
def intT (P : Program) (t : TypeId) : Bool :=
 match P.underlying t with
 | some (.int _) => true
 | _ => false
def isRd (P : Program) (o : Oper) : Bool :=
 match o.op with
 | .load _ _ | .slice _ _ _ _ _ | .lookup _ _ _ _ | .call _ => true
 | .convert _ dst _ => !(intT P dst)
 | _ => false
def isNw (P : Program) (o : Oper) : Bool :=
 match o.op with
 | .alloc _ | .box _ _ | .buildSlice _ _ _ | .makeMap _ _ | .makeSlice _ _ _ => true
 | .convert _ dst _ => !(intT P dst)
 | .call ⟨.builtin .append,⟨[_,_]⟩,⟨[_,t2]⟩⟩ => intT P t2
 | _ => false
theorem anew_none {ρ : Operand → AV} {o : Oper} (h : isNw P o = false) : anew P ρ o = none := by
 obtain ⟨dst,op,oty,pos,after,guard⟩ := o
 cases op
 case convert src dt x =>
  simp only [isNw,Bool.not_eq_false',intT] at h
  split at h
  ·rename_i k hk
   simp only [anew,hk]
   split <;> first | rfl | (rename_i he; simp at he) | simp_all
  ·cases h
 case call c =>
  obtain ⟨cal,⟨args⟩,⟨tys⟩⟩ := c
  cases cal with
  | value x => rfl
  | builtin b =>
   cases b <;> first | rfl | skip
   rcases args with _ | ⟨x,_ | ⟨y,_ | ⟨z,args⟩⟩⟩ <;> rcases tys with _ | ⟨t,_ | ⟨t2,_ | ⟨t3,tys⟩⟩⟩ <;> first | rfl | skip
   have h2 : (match P.underlying t2 with | some (.int _) => true | _ => false) = false := h
   simp only [anew]
   split
   ·rename_i k hk
    rw [hk] at h2; cases h2
   ·rfl
  | _ => rfl
 all_goals first | rfl | (exact nomatch (show true = false from h))
theorem aread_none {ρ : Operand → AV} {h : AV} {o : Oper} (hr : isRd P o = false) : aread P ρ h o = none := by
 obtain ⟨dst,op,oty,pos,after,guard⟩ := o
 cases op <;> first | rfl | (exact nomatch (show true = false from hr)) | skip
 rename_i src dt x
 simp only [isRd,Bool.not_eq_false',intT] at hr
 split at hr
 ·rename_i k hk
  simp only [aread,hk]
  split <;> first | rfl | (rename_i he; simp at he) | simp_all
 ·cases hr
theorem quiet_eff {ρ : Operand → AV} {h : AV} {nx : Nat} {o : Oper} (hq : quietK o = true) : aeff P ρ h nx o = none ∧ acallee P ρ h o = none := by
 obtain ⟨dst,op,oty,pos,after,guard⟩ := o
 cases op <;> first | exact ⟨rfl,rfl⟩ | (exact nomatch (show false = true from hq)) | skip
 rename_i c
 obtain ⟨cal,args,tys⟩ := c
 cases cal <;> first | (exact nomatch (show false = true from hq)) | skip
 rename_i b
 cases b <;> first | (exact nomatch (show false = true from hq)) | exact ⟨rfl,rfl⟩
theorem loud_pure {ρ : Operand → AV} {h : AV} {o : Oper} (hq : quietK o = false) : apure P ρ o = none ∧ aread P ρ h o = none := by
 obtain ⟨dst,op,oty,pos,after,guard⟩ := o
 cases op <;> first | exact ⟨rfl,rfl⟩ | (exact nomatch (show true = false from hq)) | skip
 rename_i c
 obtain ⟨cal,args,tys⟩ := c
 cases cal <;> first | exact ⟨rfl,rfl⟩ | skip
 rename_i b
 cases b <;> first | (exact nomatch (show true = false from hq)) | exact ⟨rfl,rfl⟩
end
end I
end Go.Proofs.YtinhinjpfmdfiaaGreatDoor
namespace Go.Proofs.YtinhinjpfmdfiaaGreatDoor
namespace I
set_option linter.unusedVariables false
def simpleB (P : Program) (ops : Array Oper) : List Nat → List Nat → Bool
 | _,[] => true
 | rd,i :: is => match ops[i]? with
  | none => false
  | some o => !(isNw P o) && (bif quietK o then simpleB P ops (bif isRd P o then i :: rd else rd) is else rd.all (fun r => (ancN ops ops.size i).any (Nat.beq r)) && simpleB P ops rd is)
noncomputable def schC (P : Program) (G n d : Nat) (ops : Array Oper) : List Nat → LC d
 | [] => ⟨fun _ _ t h nx k => k t h nx⟩
 | i :: is => match ops[i]? with
  | none => failL
  | some o => opC n d ops (cop P (fun t => opndS G (o.looksAt ops) (snap n d (av d t) (o.looksAt ops))) (ocS G n d (o.looksAt ops)) o) o (schC P G n d ops is)
structure SimS (C : DC) (t : Tr C.d) (h : AV) (nx : Nat) (rd : List Nat) (s : D) : Prop where
 tm : s.tm = av C.d t
 h : s.h = h
 nx : s.nx = nx
 pt : ∀ k,cget C.pd s.pt k = .undef
 wt : ∀ k,k < C.ops.size → k ∉ rd → cget C.pd s.wt k = .undef
theorem merge_none {pd nx0 : Nat} {pt : AV} (hp : ∀ k,cget pd pt k = .undef) : ∀ (l : List Nat) (h : AV),merge pd nx0 l h pt = (h,pt)
 | [],h => rfl
 | j :: l,h => by
  simp only [merge,hp j,live,Bool.false_and,cond_false]
  exact merge_none hp l h
theorem chkW_none {C : DC} {h wt : AV} : ∀ {l : List Nat},(∀ k ∈ l,cget C.pd wt k = .undef) → chkW C h wt l = true
 | [],_ => rfl
 | k :: l,hl => by
  simp only [chkW,hl k (List.mem_cons_self ..),Bool.true_and]
  exact chkW_none (fun j hj => hl j (List.mem_cons_of_mem _ hj))
section
variable {C : DC}
theorem step_quiet (hpd : C.ops.size ≤ 2 ^ C.pd) {t t' : Tr C.d} {h h' : AV} {nx nx' : Nat} {rd : List Nat} {s : D} (S : SimS C t h nx rd s) {i : Nat} {o : Oper} (hi : C.ops[i]? = some o) (hq : quietK o = true) (hnw : isNw C.P o = false)
  (hw : wantA C.n C.d C.ops (av C.d t) o = some true) {v : AV} (hs : sstep C.P C.K (opndS C.G (o.looksAt C.ops) (snap C.n C.d (av C.d t) (o.looksAt C.ops))) h nx o = some (v,h',nx')) (ht : av C.d t' = putA C.n C.d (av C.d t) o.dst v) :
  ∃ s',dstep C s i o = some s' ∧ SimS C t' h' nx' (bif isRd C.P o then i :: rd else rd) s' := by
 have hin : i < C.ops.size := (Array.getElem?_eq_some_iff.1 hi).1
 obtain ⟨q1,q2⟩ := quiet_eff (P := C.P) (ρ := opndS C.G (o.looksAt C.ops) (snap C.n C.d (av C.d t) (o.looksAt C.ops))) (h := h) (nx := nx) hq
 have q3 := anew_none (P := C.P) (ρ := opndS C.G (o.looksAt C.ops) (snap C.n C.d (av C.d t) (o.looksAt C.ops))) hnw
 unfold sstep astep at hs
 cases ha : apure C.P (opndS C.G (o.looksAt C.ops) (snap C.n C.d (av C.d t) (o.looksAt C.ops))) o with
 | some v0 =>
  simp only [ha,Option.some.injEq,Prod.mk.injEq] at hs
  obtain ⟨rfl,rfl,rfl⟩ := hs
  refine ⟨QE.app C ⟨v0,none,none⟩ s i o,?_,?_⟩
  ·simp only [dstep,S.tm,hw,hq,cond_true,quiet1,qeff,ha]
  ·refine ⟨by simp only [QE.app,S.tm]; exact ht.symm,S.h,S.nx,S.pt,fun k hk hn => S.wt k hk (fun hm => hn ?_)⟩
   cases isRd C.P o
   ·exact hm
   ·exact List.mem_cons_of_mem _ hm
 | none =>
  cases hr : aread C.P (opndS C.G (o.looksAt C.ops) (snap C.n C.d (av C.d t) (o.looksAt C.ops))) h o with
  | some v0 =>
   simp only [ha,hr,Option.some.injEq,Prod.mk.injEq] at hs
   obtain ⟨rfl,rfl,rfl⟩ := hs
   have hrd : isRd C.P o = true := by
    cases hx : isRd C.P o with
    | true => rfl
    | false => rw [aread_none hx] at hr; cases hr
   refine ⟨QE.app C ⟨v0,some (.lcons (ofList (snap C.n C.d (av C.d t) (o.looksAt C.ops))) v0),none⟩ s i o,?_,?_⟩
   ·simp only [dstep,S.tm,hw,hq,cond_true,quiet1,qeff,ha,q3,S.h,hr]
   ·refine ⟨by simp only [QE.app,S.tm]; exact ht.symm,S.h,S.nx,S.pt,fun k hk hn => ?_⟩
    rw [hrd] at hn
    simp only [cond_true,List.mem_cons,not_or] at hn
    simp only [QE.app,optput]
    rw [cget_cput C.pd s.wt i k _ om om,if_neg hn.1]
    exact S.wt k hk hn.2
  | none => simp only [ha,hr,q3,q1,q2] at hs; cases hs
theorem step_loud {t t' : Tr C.d} {h h' : AV} {nx nx' : Nat} {rd : List Nat} {s : D} (S : SimS C t h nx rd s) {i : Nat} {o : Oper} (hi : C.ops[i]? = some o) (hq : quietK o = false) (hnw : isNw C.P o = false)
  (hrd : rd.all (fun r => (ancN C.ops C.ops.size i).any (Nat.beq r)) = true) (hw : wantA C.n C.d C.ops (av C.d t) o = some true) {v : AV}
  (hs : sstep C.P C.K (opndS C.G (o.looksAt C.ops) (snap C.n C.d (av C.d t) (o.looksAt C.ops))) h nx o = some (v,h',nx')) (ht : av C.d t' = putA C.n C.d (av C.d t) o.dst v) :
  ∃ s',dstep C s i o = some s' ∧ SimS C t' h' nx' rd s' := by
 obtain ⟨q1,q2⟩ := loud_pure (P := C.P) (ρ := opndS C.G (o.looksAt C.ops) (snap C.n C.d (av C.d t) (o.looksAt C.ops))) (h := h) hq
 have q3 := anew_none (P := C.P) (ρ := opndS C.G (o.looksAt C.ops) (snap C.n C.d (av C.d t) (o.looksAt C.ops))) hnw
 have hck : chkW C h' s.wt (others C i) = true := chkW_none (fun k hk => by
  obtain ⟨k1,k2⟩ := mem_others.1 hk
  refine S.wt k k1 (fun hm => k2 ?_)
  have := List.all_eq_true.1 hrd k hm
  obtain ⟨x,hx,hb⟩ := List.any_eq_true.1 this
  have : k = x := Nat.eq_of_beq_eq_true hb
  rw [this]; exact hx)
 refine ⟨{ tm := putA C.n C.d s.tm o.dst v,h := h',nx := nx',pt := s.pt,wt := s.wt },?_,⟨by simp only [S.tm]; exact ht.symm,rfl,rfl,S.pt,S.wt⟩⟩
 unfold sstep astep at hs
 simp only [q1,q2,q3] at hs
 cases he : aeff C.P (opndS C.G (o.looksAt C.ops) (snap C.n C.d (av C.d t) (o.looksAt C.ops))) h nx o with
 | some r =>
  obtain ⟨a,b,c⟩ := r
  simp only [he,Option.some.injEq,Prod.mk.injEq] at hs
  obtain ⟨rfl,rfl,rfl⟩ := hs
  simp only [dstep,S.tm,hw,hq,cond_false,eff1,merge_none S.pt,S.h,S.nx,he,hck,cond_true]
 | none =>
  simp only [he] at hs
  cases hc : acallee C.P (opndS C.G (o.looksAt C.ops) (snap C.n C.d (av C.d t) (o.looksAt C.ops))) h o with
  | some r =>
   obtain ⟨a,b⟩ := r
   simp only [hc] at hs
   simp only [dstep,S.tm,hw,hq,cond_false,eff1,merge_none S.pt,S.h,S.nx,he,hc,hs,hck,cond_true]
  | none => simp only [hc] at hs; cases hs
theorem schC_ok (hpd : C.ops.size ≤ 2 ^ C.pd) {Kc : KC} (hK : KcOk Kc C.K) : ∀ (is : List Nat) {t : Tr C.d} {h : AV} {nx : Nat} {rd : List Nat} {s : D} {k : Tr C.d → AV → Nat → Bool},simpleB C.P C.ops rd is = true → SimS C t h nx rd s →
  (schC C.P C.G C.n C.d C.ops is).run Kc C.K t h nx k = true → ∃ t' h' nx' rd' s',runS C is s = some s' ∧ SimS C t' h' nx' rd' s' ∧ k t' h' nx' = true
 | [],t,h,nx,rd,s,k,_,S,hh => ⟨t,h,nx,rd,s,rfl,S,hh⟩
 | i :: is,t,h,nx,rd,s,k,hb,S,hh => by
  unfold simpleB at hb
  unfold schC at hh
  unfold runS
  cases hi : C.ops[i]? with
  | none => rw [hi] at hb; cases hb
  | some o =>
   rw [hi] at hb hh
   simp only at hb hh ⊢
   simp only [Bool.and_eq_true,Bool.not_eq_true'] at hb
   have hnw := hb.1
   rcases opC_ok (P := C.P) (cop_ok (ocS_ok C.G C.n C.d (o.looksAt C.ops)) (fun _ _ => rfl)) hK hh with ⟨v,h',nx',t',e1,e2,e3,h1⟩ | ⟨t',e1,e3,h1⟩
   ·cases hq : quietK o with
    | true =>
     have hb2 := hb.2
     rw [hq] at hb2
     obtain ⟨s',d1,S'⟩ := step_quiet hpd S hi hq hnw e1 e2 e3
     rw [d1]
     simp only
     exact schC_ok hpd hK is hb2 S' h1
    | false =>
     have hb2 := hb.2
     rw [hq] at hb2
     simp only [cond_false,Bool.and_eq_true] at hb2
     obtain ⟨s',d1,S'⟩ := step_loud S hi hq hnw hb2.1 e1 e2 e3
     rw [d1]
     simp only
     exact schC_ok hpd hK is hb2.2 S' h1
   ·have d1 : dstep C s i o = some (put1 C s o .undef) := by simp only [dstep,S.tm,e1]
    rw [d1]
    simp only
    cases hq : quietK o with
    | true =>
     have hb2 := hb.2
     rw [hq] at hb2
     refine schC_ok hpd hK is hb2 ⟨by simp only [put1,S.tm]; exact e3.symm,S.h,S.nx,S.pt,fun k hk hn => S.wt k hk (fun hm => hn ?_)⟩ h1
     cases isRd C.P o
     ·exact hm
     ·exact List.mem_cons_of_mem _ hm
    | false =>
     have hb2 := hb.2
     rw [hq] at hb2
     simp only [cond_false,Bool.and_eq_true] at hb2
     exact schC_ok hpd hK is hb2.2 ⟨by simp only [put1,S.tm]; exact e3.symm,S.h,S.nx,S.pt,S.wt⟩ h1
end
noncomputable def slowS (C : DC) (Kc : KC) : List Nat → D → (D → Bool) → Bool
 | [],s,k => k s
 | i :: is,s,k => match C.ops[i]? with
  | none => false
  | some o => match wantA C.n C.d C.ops s.tm o with
   | none => false
   | some false => slowS C Kc is (put1 C s o .undef) k
   | some true => bif quietK o then
     match quiet1 C s i o with
     | some s' => slowS C Kc is s' k
     | none => false
    else
     match aeff C.P (opndS C.G (o.looksAt C.ops) (snap C.n C.d s.tm (o.looksAt C.ops))) (merge C.pd C.nx0 (ancN C.ops C.ops.size i) s.h s.pt).1 s.nx o with
     | some (v,h',nx') => bif chkW C h' s.wt (others C i) then slowS C Kc is { tm := putA C.n C.d s.tm o.dst v,h := h',nx := nx',pt := (merge C.pd C.nx0 (ancN C.ops C.ops.size i) s.h s.pt).2,wt := s.wt } k else false
     | none => match acallee C.P (opndS C.G (o.looksAt C.ops) (snap C.n C.d s.tm (o.looksAt C.ops))) (merge C.pd C.nx0 (ancN C.ops C.ops.size i) s.h s.pt).1 o with
      | some (f,args) => fN f fun f => Kc f args (merge C.pd C.nx0 (ancN C.ops C.ops.size i) s.h s.pt).1 s.nx fun v h' nx' =>
        bif chkW C h' s.wt (others C i) then slowS C Kc is { tm := putA C.n C.d s.tm o.dst v,h := h',nx := nx',pt := (merge C.pd C.nx0 (ancN C.ops C.ops.size i) s.h s.pt).2,wt := s.wt } k else false
      | none => false
theorem slowS_ok {C : DC} {Kc : KC} (hK : KcOk Kc C.K) : ∀ (is : List Nat) (s : D) (k : D → Bool),slowS C Kc is s k = true → ∃ s',runS C is s = some s' ∧ k s' = true
 | [],s,k,h => ⟨s,rfl,h⟩
 | i :: is,s,k,h => by
  unfold slowS at h
  unfold runS
  split at h
  ·cases h
  ·rename_i o ho
   rw [ho]
   simp only
   unfold dstep
   split at h
   ·cases h
   ·rename_i hw
    rw [hw]
    exact slowS_ok hK is _ k h
   ·rename_i hw
    rw [hw]
    simp only
    cases hq : quietK o with
    | true =>
     rw [hq] at h
     simp only [cond_true] at h ⊢
     split at h
     ·rename_i s' hs
      rw [hs]
      exact slowS_ok hK is s' k h
     ·cases h
    | false =>
     rw [hq] at h
     simp only [cond_false] at h ⊢
     unfold eff1
     dsimp only
     split at h
     ·rename_i v h' nx' he
      rw [he]
      simp only
      cases hc : chkW C h' s.wt (others C i) with
      | false => rw [hc] at h; cases h
      | true =>
       rw [hc] at h
       simp only [cond_true] at h ⊢
       exact slowS_ok hK is _ k h
     ·rename_i he
      rw [he]
      simp only
      split at h
      ·rename_i f args ha
       rw [ha]
       simp only
       rw [fN_eq] at h
       obtain ⟨v,h',nx',e1,h1⟩ := hK _ _ _ _ _ h
       rw [e1]
       simp only
       cases hc : chkW C h' s.wt (others C i) with
       | false => rw [hc] at h1; cases h1
       | true =>
        rw [hc] at h1
        simp only [cond_true] at h1 ⊢
        exact slowS_ok hK is _ k h1
      ·cases h
noncomputable def slowR (P : Program) (G n d : Nat) (ops : Array Oper) : LC d := ⟨fun Kc K t h nx k => bif P.follows .mixedOrders && (edgesOk ops && Nat.ble (nx + ops.size) (2 ^ HD)) then
 match schedF ops with
 | some is => slowS ⟨P,G,n,d,K,ops,nx,lg ops.size⟩ Kc is ⟨av d t,h,nx + ops.size,unid (lg ops.size) .undef,unid (lg ops.size) .undef⟩ fun s =>
   taK d s.tm fun t' => fN s.nx fun nx' => k t' (merge (lg ops.size) nx (List.range ops.size) s.h s.pt).1 nx'
 | none => false
 else false⟩
noncomputable def regC (P : Program) (G n d : Nat) (ops : Array Oper) : LC d :=
 bif P.follows .mixedOrders && edgesOk ops then
  match schedF ops with
  | some is => bif simpleB P ops [] is then fN ops.size fun sz => @LC.rec d (fun _ => LC d) (fun f => ⟨fun Kc K t h nx k => bif Nat.ble (Nat.add nx sz) (2 ^ HD) then fN (Nat.add nx sz) fun nx => f Kc K t h nx k else false⟩) (schC P G n d ops is)
   else slowR P G n d ops
  | none => slowR P G n d ops
 else slowR P G n d ops
section
variable {P : Program} {G n d : Nat}
theorem slowR_ok {ops : Array Oper} {Kc : KC} {K : KF} (hK : KcOk Kc K) {t : Tr d} {h : AV} {nx : Nat} {k : Tr d → AV → Nat → Bool} (hh : (slowR P G n d ops).run Kc K t h nx k = true) :
  ∃ t' h' nx',regA P G n d K ops (av d t) h nx = some (av d t',h',nx') ∧ k t' h' nx' = true := by
 unfold slowR at hh
 dsimp only at hh
 cases hb : (P.follows .mixedOrders && (edgesOk ops && Nat.ble (nx + ops.size) (2 ^ HD))) with
 | false => rw [hb] at hh; cases hh
 | true =>
  rw [hb] at hh
  simp only [cond_true] at hh
  split at hh
  ·rename_i is hs
   obtain ⟨s',r1,h1⟩ := slowS_ok (C := ⟨P,G,n,d,K,ops,nx,lg ops.size⟩) hK is _ _ hh
   obtain ⟨t',e1,h2⟩ := taK_ok h1
   rw [fN_eq] at h2
   refine ⟨t',_,_,?_,h2⟩
   unfold regA
   rw [hb]
   simp only [cond_true]
   rw [hs]
   simp only
   rw [r1]
   simp only
   rw [e1]
  ·cases hh
theorem regC_ok {ops : Array Oper} {Kc : KC} {K : KF} (hK : KcOk Kc K) {t : Tr d} {h : AV} {nx : Nat} {k : Tr d → AV → Nat → Bool} (hh : (regC P G n d ops).run Kc K t h nx k = true) :
  ∃ t' h' nx',regA P G n d K ops (av d t) h nx = some (av d t',h',nx') ∧ k t' h' nx' = true := by
 unfold regC at hh
 cases hb : (P.follows .mixedOrders && edgesOk ops) with
 | false => rw [hb] at hh; exact slowR_ok hK hh
 | true =>
  rw [hb] at hh
  simp only [cond_true] at hh
  split at hh
  ·rename_i is hs
   cases hsb : simpleB P ops [] is with
   | false => rw [hsb] at hh; exact slowR_ok hK hh
   | true =>
    rw [hsb] at hh
    simp only [cond_true] at hh
    rw [fN_eq] at hh
    obtain ⟨e1,h1⟩ := cond_ok hh
    have h2 := (fN_eq (Nat.add nx ops.size) fun nx => (schC P G n d ops is).run Kc K t h nx k).symm.trans h1
    have e1' : Nat.ble (nx + ops.size) (2 ^ HD) = true := e1
    let C : DC := ⟨P,G,n,d,K,ops,nx,lg ops.size⟩
    have hpd : C.ops.size ≤ 2 ^ C.pd := lg_le _
    have S0 : SimS C t h (nx + ops.size) [] ⟨av d t,h,nx + ops.size,unid (lg ops.size) .undef,unid (lg ops.size) .undef⟩ :=
     ⟨rfl,rfl,rfl,fun k => cget_unid _ _ _,fun k _ _ => cget_unid _ _ _⟩
    obtain ⟨t',h',nx',rd',s',r1,S',h3⟩ := schC_ok (C := C) hpd hK is hsb S0 h2
    refine ⟨t',h',nx',?_,h3⟩
    simp only [Bool.and_eq_true] at hb
    unfold regA
    rw [hb.1,hb.2,e1']
    simp only [Bool.and_self,cond_true]
    rw [hs]
    simp only
    rw [show runS ⟨P,G,n,d,K,ops,nx,lg ops.size⟩ is ⟨av d t,h,nx + ops.size,unid (lg ops.size) .undef,unid (lg ops.size) .undef⟩ = some s' from r1]
    simp only
    have hm : merge (lg ops.size) nx (List.range ops.size) s'.h s'.pt = (s'.h,s'.pt) := merge_none S'.pt _ _
    rw [hm,S'.tm,S'.h,S'.nx]
  ·exact slowR_ok hK hh
end
end I
end Go.Proofs.YtinhinjpfmdfiaaGreatDoor
namespace Go.Proofs.YtinhinjpfmdfiaaGreatDoor
namespace I
set_option linter.unusedVariables false
abbrev CK (d : Nat) := Ex → List Nat → Tr d → AV → Nat → Bool
structure CC (d : Nat) where
 run : KC → KF → Nat → List Nat → Tr d → AV → Nat → CK d → Bool
def failCC {d : Nat} : CC d := ⟨fun _ _ _ _ _ _ _ _ => false⟩
noncomputable def exE (e : Ex) (a : Bool) (b : Nat → Bool) (c : Bool) : Bool := @Ex.rec (fun _ => Bool) a b c e
noncomputable def loopK {d : Nat} (f : List Nat → Tr d → AV → Nat → CK d → Bool) (k : CK d) (N : Nat) : List Nat → Tr d → AV → Nat → Bool :=
 @Nat.rec (fun _ => List Nat → Tr d → AV → Nat → Bool) (fun _ _ _ _ => false) (fun _ ih dl t h nx => f dl t h nx fun e dl t h nx => exE e (ih dl t h nx) (fun id => k (.exit id) dl t h nx) (k .ret dl t h nx)) N
noncomputable def entE (n rd : Nat) (ps : List Nat) (assign body : Code) (tm h : AV) (nx : Nat) (c : Nat → List Nat → AV → Nat → Bool) : Bool :=
 @Nat.rec (fun _ => Bool) (bif Nat.blt (Nat.succ nx) (2 ^ HD) then cputK HD h nx .df fun h => fN (Nat.succ nx) fun b => cputK HD h b (.lp n ps assign body tm 0 0 nx) fun h => fN (Nat.succ b) fun nx' => c b [nx] h nx' else false)
  (fun b _ => cgetK HD h b fun x => lpE x fun _ _ _ _ _ _ _ db => bif Nat.blt nx (2 ^ HD) then cputK HD h nx (.lp n ps assign body tm 0 0 db) fun h => fN (Nat.succ nx) fun nx' => c nx [] h nx' else false) rd
theorem entE_ok {n rd : Nat} {ps : List Nat} {assign body : Code} {tm h : AV} {nx : Nat} {c : Nat → List Nat → AV → Nat → Bool} (hh : entE n rd ps assign body tm h nx c = true) :
  ∃ b dl h' nx',enterA n rd ps assign body tm h nx = some (b,dl,h',nx') ∧ c b dl h' nx' = true := by
 unfold entE at hh
 cases rd with
 | zero =>
  obtain ⟨e1,h1⟩ := cond_ok hh
  have h2 := cputK_ok h1
  have h3 := (fN_eq (Nat.succ nx) _).symm.trans h2
  have h4 := cputK_ok h3
  have h5 := (fN_eq (Nat.succ (Nat.succ nx)) fun nx' => c (Nat.succ nx) [nx] _ nx').symm.trans h4
  have e1' : Nat.blt (nx + 1) (2 ^ HD) = true := e1
  exact ⟨nx + 1,[nx],_,nx + 2,by simp only [enterA,e1',cond_true],h5⟩
 | succ b =>
  obtain ⟨n',ps',as',bo',tm',st',pe',db,e1,h1⟩ := lpE_ok (cgetK_ok hh)
  obtain ⟨e2,h2⟩ := cond_ok h1
  have h3 := cputK_ok h2
  have h4 := (fN_eq (Nat.succ nx) fun nx' => c nx [] _ nx').symm.trans h3
  exact ⟨nx,[],_,nx + 1,by simp only [enterA,e1,e2,cond_true],h4⟩
noncomputable def rfE (v : AV) (c : Nat → AV → AV → Bool) : Bool :=
 match v with
 | .fn f first caps => c f first caps
 | _ => false
noncomputable def compC (P : Program) (G n d N : Nat) : Code → CC d
 | .skip => ⟨fun _ _ _ dl t h nx k => k .normal dl t h nx⟩
 | .label _ => ⟨fun _ _ _ dl t h nx k => k .normal dl t h nx⟩
 | .region _ ops draw => @LC.rec d (fun _ => CC d) (fun f => ⟨fun Kc K rd dl t h nx k => f Kc K t h nx fun t h nx => k .normal dl t h nx⟩) (bif draw then regC P G n d ops else opsC P G n d ops ops.toList)
 | .seq a b => @CC.rec d (fun _ => CC d) (fun f => @CC.rec d (fun _ => CC d) (fun g => ⟨fun Kc K rd dl t h nx k => f Kc K rd dl t h nx fun e dl t h nx => exE e (g Kc K rd dl t h nx k) (fun id => k (.exit id) dl t h nx) (k .ret dl t h nx)⟩) (compC P G n d N b)) (compC P G n d N a)
 | .cond c a b => @CC.rec d (fun _ => CC d) (fun f => @CC.rec d (fun _ => CC d) (fun g => @GC.rec d (fun _ => CC d) (fun gc => ⟨fun Kc K rd dl t h nx k => gc t fun v => boolE v fun b => @Bool.rec (fun _ => Bool) (g Kc K rd dl t h nx k) (f Kc K rd dl t h nx k) b⟩) (ocA G n d c)) (compC P G n d N b)) (compC P G n d N a)
 | .block id b => @CC.rec d (fun _ => CC d) (fun f => ⟨fun Kc K rd dl t h nx k => f Kc K rd dl t h nx fun e dl t h nx => exE e (k .normal dl t h nx) (fun j => bif Nat.beq j id then k .normal dl t h nx else k (.exit j) dl t h nx) (k .ret dl t h nx)⟩) (compC P G n d N b)
 | .loop b => @CC.rec d (fun _ => CC d) (fun f => ⟨fun Kc K rd dl t h nx k => loopK (f Kc K rd) k N dl t h nx⟩) (compC P G n d N b)
 | .exit id => ⟨fun _ _ _ dl t h nx k => k (.exit id) dl t h nx⟩
 | .ret => ⟨fun _ _ _ dl t h nx k => k .ret dl t h nx⟩
 | .rangeFunc g ps assign body => @GC.rec d (fun _ => CC d) (fun gc => ⟨fun Kc K rd dl t h nx k => gc t fun v => rfE v fun f first caps => entE n rd ps.toList assign body (av d t) h nx fun b dl' h1 nx1 =>
   Kc (2 * f) (toList first ++ (.yld b :: toList caps)) h1 nx1 fun _ h2 nx2 => cgetK HD h2 b fun x => lpE x fun _ _ _ _ _ st' pend _ => bif Nat.beq st' 1 then false else cputK HD h2 b .dead fun h3 => k (exOf pend) (dl' ++ dl) t h3 nx2⟩) (ocA G n d g)
 | _ => failCC
section
variable {P : Program} {G n d N : Nat} {Kc : KC} {K : KF}
theorem exE_ok {e : Ex} {a : Bool} {b : Nat → Bool} {c : Bool} (h : exE e a b c = true) : (e = .normal ∧ a = true) ∨ (∃ id,e = .exit id ∧ b id = true) ∨ (e = .ret ∧ c = true) := by
 cases e with
 | normal => exact .inl ⟨rfl,h⟩
 | exit id => exact .inr (.inl ⟨id,rfl,h⟩)
 | ret => exact .inr (.inr ⟨rfl,h⟩)
theorem loopK_ok {f : List Nat → Tr d → AV → Nat → CK d → Bool} {g : SD → Option (Ex × SD)}
  (hf : ∀ dl t h nx k,f dl t h nx k = true → ∃ e dl' t' h' nx',g (dl,av d t,h,nx) = some (e,dl',av d t',h',nx') ∧ k e dl' t' h' nx' = true) {k : CK d} :
  ∀ (N : Nat) (dl : List Nat) (t : Tr d) (h : AV) (nx : Nat),loopK f k N dl t h nx = true → ∃ e dl' t' h' nx',loopI g N (dl,av d t,h,nx) = some (e,dl',av d t',h',nx') ∧ k e dl' t' h' nx' = true
 | 0,dl,t,h,nx,hh => nomatch (show false = true from hh)
 | N + 1,dl,t,h,nx,hh => by
  obtain ⟨e,dl',t',h',nx',e1,h1⟩ := hf dl t h nx _ hh
  rcases exE_ok h1 with ⟨rfl,h2⟩ | ⟨id,rfl,h2⟩ | ⟨rfl,h2⟩
  ·obtain ⟨e2,dl2,t2,h2,nx2,e3,h3⟩ := loopK_ok hf N dl' t' h' nx' h2
   exact ⟨e2,dl2,t2,h2,nx2,by simp only [loopI,e1]; exact e3,h3⟩
  ·exact ⟨_,dl',t',h',nx',by simp only [loopI,e1],h2⟩
  ·exact ⟨_,dl',t',h',nx',by simp only [loopI,e1],h2⟩
theorem compC_ok (hK : KcOk Kc K) (rd : Nat) : ∀ (c : Code) (dl : List Nat) (t : Tr d) (h : AV) (nx : Nat) (k : CK d),(compC P G n d N c).run Kc K rd dl t h nx k = true →
  ∃ e dl' t' h' nx',execC P G n d K N rd c (dl,av d t,h,nx) = some (e,dl',av d t',h',nx') ∧ k e dl' t' h' nx' = true := by
 intro c
 induction c with
 | skip => intro dl t h nx k hh; exact ⟨_,dl,t,h,nx,rfl,hh⟩
 | label id => intro dl t h nx k hh; exact ⟨_,dl,t,h,nx,rfl,hh⟩
 | region id ops draw =>
  intro dl t h nx k hh
  cases draw with
  | true =>
   obtain ⟨t',h',nx',e1,h1⟩ := regC_ok hK (show (regC P G n d ops).run Kc K t h nx _ = true from hh)
   exact ⟨_,dl,t',h',nx',by simp only [execC,cond_true,e1],h1⟩
  | false =>
   obtain ⟨t',h',nx',e1,h1⟩ := opsC_ok hK ops.toList (show (opsC P G n d ops ops.toList).run Kc K t h nx _ = true from hh)
   exact ⟨_,dl,t',h',nx',by simp only [execC,cond_false,e1],h1⟩
 | seq a b iha ihb =>
  intro dl t h nx k hh
  obtain ⟨e,dl',t',h',nx',e1,h1⟩ := iha dl t h nx _ hh
  rcases exE_ok h1 with ⟨rfl,h2⟩ | ⟨id,rfl,h2⟩ | ⟨rfl,h2⟩
  ·obtain ⟨e2,dl2,t2,h2,nx2,e3,h3⟩ := ihb dl' t' h' nx' k h2
   exact ⟨e2,dl2,t2,h2,nx2,by simp only [execC,e1]; exact e3,h3⟩
  ·exact ⟨_,dl',t',h',nx',by simp only [execC,e1],h2⟩
  ·exact ⟨_,dl',t',h',nx',by simp only [execC,e1],h2⟩
 | cond c a b iha ihb =>
  intro dl t h nx k hh
  obtain ⟨b',e1,h1⟩ := boolE_ok (ocA_ok G n d c t _ hh)
  have e1 : opndA G n d (av d t) c = .bool b' := e1
  cases b' with
  | true =>
   obtain ⟨e2,dl2,t2,h2,nx2,e3,h3⟩ := iha dl t h nx k h1
   exact ⟨e2,dl2,t2,h2,nx2,by simp only [execC,e1]; exact e3,h3⟩
  | false =>
   obtain ⟨e2,dl2,t2,h2,nx2,e3,h3⟩ := ihb dl t h nx k h1
   exact ⟨e2,dl2,t2,h2,nx2,by simp only [execC,e1]; exact e3,h3⟩
 | block id b ih =>
  intro dl t h nx k hh
  obtain ⟨e,dl',t',h',nx',e1,h1⟩ := ih dl t h nx _ hh
  rcases exE_ok h1 with ⟨rfl,h2⟩ | ⟨j,rfl,h2⟩ | ⟨rfl,h2⟩
  ·exact ⟨_,dl',t',h',nx',by simp only [execC,e1],h2⟩
  ·cases hb : Nat.beq j id with
   | true => rw [hb] at h2; exact ⟨_,dl',t',h',nx',by simp only [execC,e1,hb,cond_true],h2⟩
   | false => rw [hb] at h2; exact ⟨_,dl',t',h',nx',by simp only [execC,e1,hb,cond_false],h2⟩
  ·exact ⟨_,dl',t',h',nx',by simp only [execC,e1],h2⟩
 | loop b ih =>
  intro dl t h nx k hh
  obtain ⟨e,dl',t',h',nx',e1,h1⟩ := loopK_ok (f := (compC P G n d N b).run Kc K rd) (g := fun s => execC P G n d K N rd b s) (fun dl t h nx k hk => ih dl t h nx k hk) N dl t h nx hh
  exact ⟨e,dl',t',h',nx',e1,h1⟩
 | exit id => intro dl t h nx k hh; exact ⟨_,dl,t,h,nx,rfl,hh⟩
 | ret => intro dl t h nx k hh; exact ⟨_,dl,t,h,nx,rfl,hh⟩
 | rangeFunc g ps assign body _ _ =>
  intro dl t h nx k hh
  have h1 := ocA_ok G n d g t _ hh
  unfold rfE at h1
  split at h1
  ·rename_i f first caps e0
   obtain ⟨b,dl',h',nx',e1,h2⟩ := entE_ok h1
   obtain ⟨v,h2',nx2,e2,h3⟩ := hK _ _ _ _ _ h2
   obtain ⟨n',ps',as',bo',tm',st',pe',db',e3,h4⟩ := lpE_ok (cgetK_ok h3)
   obtain ⟨e4,h5⟩ := cond_not h4
   have h6 := cputK_ok h5
   exact ⟨_,_,t,_,nx2,by simp only [execC,e0,e1,e2,e3,e4,cond_false],h6⟩
  ·cases h1
 | _ => intro dl t h nx k hh; exact nomatch (show false = true from hh)
end
theorem av_full : ∀ (d : Nat),av d (fullT d) = fullA d
 | 0 => rfl
 | 1 => rfl
 | d + 2 => by
  show AV.node (.node (av d (fullT d)) (av d (fullT d))) (.node (av d (fullT d)) (av d (fullT d))) = _
  rw [av_full d]; rfl
noncomputable def argsK (d : Nat) : List AV → Nat → Tr d → (Tr d → Bool) → Bool
 | [],_,t,k => k t
 | a :: l,i,t,k => @PC.rec d (fun _ => Bool) (fun p => p t a fun t => argsK d l (i + 1) t k) (putC d i)
theorem argsK_ok {d : Nat} : ∀ (l : List AV) (i : Nat) (t : Tr d) (k : Tr d → Bool),argsK d l i t k = true → ∃ t',av d t' = argsA d l i (av d t) ∧ k t' = true
 | [],i,t,k,h => ⟨t,rfl,h⟩
 | a :: l,i,t,k,h => by
  obtain ⟨t1,e1,e2⟩ := putC_ok d i t a (fun t => argsK d l (i + 1) t k)
  have h1 : (putC d i).run t a (fun t => argsK d l (i + 1) t k) = true := h
  rw [e2] at h1
  obtain ⟨t',e3,h3⟩ := argsK_ok l (i + 1) t1 k h1
  exact ⟨t',by rw [e3,e1]; rfl,h3⟩
structure RC (d : Nat) where
 run : Tr d → AV → (List AV → Bool) → Bool
noncomputable def resC (P : Program) (n d : Nat) : List ResultVar → RC d
 | [] => ⟨fun _ _ k => k []⟩
 | .tmp i :: l => @RC.rec d (fun _ => RC d) (fun r => @GC.rec d (fun _ => RC d) (fun g => ⟨fun t h k => g t fun v => r t h fun vs => k (v :: vs)⟩) (ocA 0 n d (.tmp i))) (resC P n d l)
 | .cell i ty :: l => @RC.rec d (fun _ => RC d) (fun r => @GC.rec d (fun _ => RC d) (fun g => ⟨fun t h k => g t fun v => ptrE v fun b off => cgetK HD h b fun c => cellsE c fun _ m _ u => optE (apartA P ty m u off) fun v => r t h fun vs => k (v :: vs)⟩) (ocA 0 n d (.tmp i))) (resC P n d l)
theorem resC_ok {P : Program} {n d : Nat} : ∀ (l : List ResultVar) (t : Tr d) (h : AV) (k : List AV → Bool),(resC P n d l).run t h k = true → ∃ vs,resA P n d (av d t) h l = some vs ∧ k vs = true
 | [],t,h,k,hh => ⟨[],rfl,hh⟩
 | .tmp i :: l,t,h,k,hh => by
  have h1 := ocA_ok 0 n d (.tmp i) t _ hh
  obtain ⟨vs,e1,h2⟩ := resC_ok l t h _ h1
  exact ⟨_,by simp only [resA,e1]; rfl,h2⟩
 | .cell i ty :: l,t,h,k,hh => by
  have h1 := ocA_ok 0 n d (.tmp i) t _ hh
  obtain ⟨b,off,e0,h2⟩ := ptrE_ok h1
  obtain ⟨ety,m,ro,u,e1,h3⟩ := cellsE_ok (cgetK_ok h2)
  obtain ⟨v,e2,h4⟩ := optE_ok h3
  obtain ⟨vs,e3,h5⟩ := resC_ok l t h _ h4
  have e0 : (bif Nat.blt i n then cget d (av d t) i else .undef) = .ptr b off := e0
  exact ⟨_,by simp only [resA,e0,e1,e2,e3],h5⟩
noncomputable def outE (vs : List AV) (k : AV → Bool) : Bool :=
 match vs with
 | [v] => k v
 | vs => k (.tup (ofList vs))
theorem outE_ok {vs : List AV} {k : AV → Bool} (h : outE vs k = true) : k (resOfA vs) = true := by
 unfold outE at h
 unfold resOfA
 split at h
 ·exact h
 ·rename_i hn
  split
  ·rename_i v; exact absurd rfl (hn v)
  ·exact h
structure FC where
 run : KC → KF → List AV → AV → Nat → VK → Bool
def failF : FC := ⟨fun _ _ _ _ _ _ => false⟩
noncomputable def takeE (r : Option AV) (k : AV → Bool) : Bool := @Option.rec AV (fun _ => Bool) false k r
theorem takeE_ok {r : Option AV} {k : AV → Bool} (h : takeE r k = true) : ∃ v,r = some v ∧ k v = true := by
 cases r with
 | none => exact nomatch (show false = true from h)
 | some v => exact ⟨v,rfl,h⟩
noncomputable def compB (P : Program) (G N n d : Nat) (c : Code) (rs : List ResultVar) : FC :=
 @CC.rec d (fun _ => FC) (fun f => @RC.rec d (fun _ => FC) (fun r => ⟨fun Kc K args h nx k => bif Nat.ble args.length n then argsK d args 0 (fullT d) fun t => f Kc K 0 [] t h nx fun e dl t h nx =>
  exE e (takeE (takeA dl h) fun h => r t h fun vs => outE vs fun v => k v h nx) (fun _ => false) (takeE (takeA dl h) fun h => r t h fun vs => outE vs fun v => k v h nx) else false⟩) (resC P n d rs)) (compC P G n d N c)
noncomputable def compF (P : Program) (G N f : Nat) : FC :=
 match P.funcs[f]? with
 | none => failF
 | some fn => bif fn.name == "runtime.NumGoroutine" then failF else match fn.body with
  | none => failF
  | some c => fN fn.ntmps fun n => fN (lg n) fun d => compB P G N n d c fn.results.toList
noncomputable def putPsK (n d : Nat) : List Nat → List AV → Tr d → (Tr d → Bool) → Bool
 | i :: is,a :: asx,t,k => @PC.rec d (fun _ => Bool) (fun p => p t a fun t => putPsK n d is asx t k) (dstC n d (some i))
 | [],_,t,k => k t
 | _ :: _,[],t,k => k t
theorem putPsK_ok {n d : Nat} : ∀ (is : List Nat) (asx : List AV) (t : Tr d) (k : Tr d → Bool),putPsK n d is asx t k = true → ∃ t',av d t' = putPs n d is asx (av d t) ∧ k t' = true
 | i :: is,a :: asx,t,k,h => by
  obtain ⟨t1,e1,h1⟩ := dstC_ok n d (some i) t a (k := fun t => putPsK n d is asx t k) h
  obtain ⟨t',e3,h3⟩ := putPsK_ok is asx t1 k h1
  exact ⟨t',by rw [e3,e1]; rfl,h3⟩
 | [],asx,t,k,h => ⟨t,by cases asx <;> rfl,h⟩
 | _ :: _,[],t,k,h => ⟨t,rfl,h⟩
noncomputable def roundC (P : Program) (G N : Nat) (Kc : KC) (K : KF) (b : Nat) (args : List AV) (h : AV) (nx : Nat) (k : VK) : Bool :=
 cgetK HD h b fun c => lpE c fun n ps assign body tm st _ _ => bif Nat.beq st 0 && Nat.beq args.length ps.length then
  taK (lg n) tm fun t => putPsK n (lg n) ps args t fun t => @CC.rec (lg n) (fun _ => Bool) (fun fa => fa Kc K (b + 1) [] t h nx fun e dl t1 h1 nx1 => exE e (bif dl.isEmpty then
   cgetK HD h1 b fun c1 => lpE c1 fun n' ps' as' bo' tm' st' pe' db' => bif Nat.beq st' 0 then cputK HD h1 b (.lp n' ps' as' bo' tm' 1 pe' db') fun h1' =>
    @CC.rec (lg n) (fun _ => Bool) (fun fb => fb Kc K (b + 1) [] t1 h1' nx1 fun e _ _ h2 nx2 => cgetK HD h2 b fun c2 => lpE c2 fun n2 ps2 as2 bo2 tm2 _ _ db2 => cputK HD h2 b (.lp n2 ps2 as2 bo2 tm2 e.stn e.pend db2) fun h3 => fB e.goes fun g => k (.bool g) h3 nx2) (compC P G n (lg n) N body)
   else false else false) (fun _ => false) false) (compC P G n (lg n) N assign)
 else false
theorem roundC_ok {P : Program} {G N : Nat} {Kc : KC} {K : KF} (hK : KcOk Kc K) {b : Nat} {args : List AV} {h : AV} {nx : Nat} {k : VK} (hh : roundC P G N Kc K b args h nx k = true) :
  ∃ v h' nx',roundA P G K N b args h nx = some (v,h',nx') ∧ k v h' nx' = true := by
 unfold roundC at hh
 obtain ⟨n,ps,assign,body,tm,st,pe,db,e1,h1⟩ := lpE_ok (cgetK_ok hh)
 obtain ⟨e2,h2⟩ := cond_ok h1
 obtain ⟨t,rfl,h3⟩ := taK_ok h2
 obtain ⟨t0,e3,h4⟩ := putPsK_ok ps args t _ h3
 obtain ⟨e,dl,t1,h1',nx1,e4,h5⟩ := compC_ok (P := P) (G := G) (n := n) (N := N) hK (b + 1) assign [] t0 h nx _ h4
 rcases exE_ok h5 with ⟨rfl,h6⟩ | ⟨j,rfl,h6⟩ | ⟨rfl,h6⟩
 ·obtain ⟨e5,h7⟩ := cond_ok h6
  have e5 : dl = [] := List.isEmpty_iff.1 e5
  subst e5
  obtain ⟨n',ps',as',bo',tm',st',pe',db',e6,h8⟩ := lpE_ok (cgetK_ok h7)
  obtain ⟨e7,h9⟩ := cond_ok h8
  have h10 := cputK_ok h9
  obtain ⟨ex,dl2,t2,h2',nx2,e8,h11⟩ := compC_ok (P := P) (G := G) (n := n) (N := N) hK (b + 1) body [] t1 _ nx1 _ h10
  obtain ⟨n2,ps2,as2,bo2,tm2,st2,pe2,db2,e9,h12⟩ := lpE_ok (cgetK_ok h11)
  have h13 := (fB_eq ex.goes fun g => k (.bool g) _ nx2).symm.trans (cputK_ok h12)
  refine ⟨_,_,_,?_,h13⟩
  unfold roundA
  rw [e1]
  simp only [e2,cond_true]
  rw [← e3,e4]
  simp only [e6,e7,cond_true,e8,e9]
 ·cases h6
 ·cases h6
noncomputable def xE (r : Option (AV × AV × Nat)) (c : VK) (other : Bool) : Bool :=
 match r with
 | some (v,h,nx) => c v h nx
 | none => other
noncomputable def callC (P : Program) (G : Nat) (X : KF) (N : Nat) (k : Nat) : KC :=
 @Nat.rec (fun _ => KC) (fun _ _ _ _ _ => false) (fun k ih f args h nx c => bif Nat.beq (Nat.mod f 2) 1 then roundC P G N ih (callA P G X N k) (Nat.div f 2) args h nx c else
  xE (X (Nat.div f 2) args h nx) c (@FC.rec (fun _ => Bool) (fun r => r ih (callA P G X N k) args h nx c) (compF P G N (Nat.div f 2)))) k
theorem compB_ok {P : Program} {G N n d : Nat} {Kc : KC} {K : KF} (hK : KcOk Kc K) {c : Code} {rs : List ResultVar} {args : List AV} {h : AV} {nx : Nat} {k : VK} (hh : (compB P G N n d c rs).run Kc K args h nx k = true) :
  Nat.ble args.length n = true ∧ ∃ e dl t h' nx' h'' vs,execC P G n d K N 0 c ([],argsA d args 0 (fullA d),h,nx) = some (e,dl,av d t,h',nx') ∧ (∀ j,e ≠ .exit j) ∧ takeA dl h' = some h'' ∧ resA P n d (av d t) h'' rs = some vs ∧ k (resOfA vs) h'' nx' = true := by
 obtain ⟨e1,h1⟩ := cond_ok (show (bif Nat.ble args.length n then _ else false) = true from hh)
 refine ⟨e1,?_⟩
 obtain ⟨t,e2,h2⟩ := argsK_ok args 0 (fullT d) _ h1
 rw [av_full] at e2
 obtain ⟨e,dl,t',h',nx',e3,h3⟩ := compC_ok (P := P) (G := G) (n := n) (N := N) hK 0 c [] t h nx _ h2
 rw [e2] at e3
 rcases exE_ok h3 with ⟨rfl,h4⟩ | ⟨j,rfl,h4⟩ | ⟨rfl,h4⟩
 ·obtain ⟨h'',e4,h5⟩ := takeE_ok h4
  obtain ⟨vs,e5,h6⟩ := resC_ok rs t' h'' _ h5
  exact ⟨_,dl,t',h',nx',h'',vs,e3,fun j hj => (by cases hj),e4,e5,outE_ok h6⟩
 ·cases h4
 ·obtain ⟨h'',e4,h5⟩ := takeE_ok h4
  obtain ⟨vs,e5,h6⟩ := resC_ok rs t' h'' _ h5
  exact ⟨_,dl,t',h',nx',h'',vs,e3,fun j hj => (by cases hj),e4,e5,outE_ok h6⟩
theorem callC_ok (P : Program) (G : Nat) (X : KF) (N : Nat) : ∀ (k : Nat),KcOk (callC P G X N k) (callA P G X N k)
 | 0,f,args,h,nx,c,hh => nomatch (show false = true from hh)
 | k + 1,f,args,h,nx,c,hh => by
  have hh : (bif Nat.beq (f % 2) 1 then roundC P G N (callC P G X N k) (callA P G X N k) (f / 2) args h nx c else
   xE (X (f / 2) args h nx) c (@FC.rec (fun _ => Bool) (fun r => r (callC P G X N k) (callA P G X N k) args h nx c) (compF P G N (f / 2)))) = true := hh
  unfold callA
  cases hb : Nat.beq (f % 2) 1 with
  | true =>
   rw [hb] at hh
   exact roundC_ok (callC_ok P G X N k) hh
  | false =>
   rw [hb] at hh
   simp only [cond_false] at hh ⊢
   unfold xE at hh
   split at hh
   ·rename_i v h' nx' e
    exact ⟨v,h',nx',by rw [e],hh⟩
   ·rename_i e
    rw [e]
    simp only
    have hh : (compF P G N (f / 2)).run (callC P G X N k) (callA P G X N k) args h nx c = true := hh
    unfold compF at hh
    split at hh
    ·exact nomatch (show false = true from hh)
    ·rename_i fn hf
     rw [hf]
     simp only
     cases hn : (fn.name == "runtime.NumGoroutine") with
     | true => rw [hn] at hh; exact nomatch (show false = true from hh)
     | false =>
      rw [hn] at hh
      simp only [cond_false] at hh
      split at hh
      ·exact nomatch (show false = true from hh)
      ·rename_i cd hc
       rw [fN_eq,fN_eq] at hh
       obtain ⟨e1,e,dl,t,h',nx',h'',vs,e2,e3,e4,e5,h1⟩ := compB_ok (callC_ok P G X N k) hh
       refine ⟨_,_,_,?_,h1⟩
       simp only [e1,Bool.not_true,Bool.or_self,cond_false,hc,e2]
       cases e with
       | normal => simp only [e4,e5]
       | exit j => exact absurd rfl (e3 j)
       | ret => simp only [e4,e5]
noncomputable def isT (v _ : AV) (_ : Nat) : Bool := boolE v fun b => b
theorem run_true {P : Program} {G : Nat} {X : KF} {N k f : Nat} {args : List AV} {h : AV} {nx : Nat} (hr : (bif callC P G X N k (2 * f) args h nx isT then true else false) = true) :
  ∃ h' nx',callA P G X N k (2 * f) args h nx = some (.bool true,h',nx') := by
 obtain ⟨h1,_⟩ := cond_ok hr
 obtain ⟨v,h',nx',e,h2⟩ := callC_ok P G X N k _ _ _ _ _ h1
 obtain ⟨b,rfl,h3⟩ := boolE_ok h2
 have : b = true := h3
 subst this
 exact ⟨h',nx',e⟩
end I
end Go.Proofs.YtinhinjpfmdfiaaGreatDoor
namespace Go.Proofs.YtinhinjpfmdfiaaGreatDoor
namespace I
set_option linter.unusedVariables false
def tabHG (g : Nat) (k : IntKind) (zs : List Int) : AV := cput HD H0 g (.cells 0 zs.length true (cmk (fun i => .int k (zs.getD i 0)) (lg zs.length) 0 zs.length))
def tabSG (g G n : Nat) : Sg := fun b => if b = g then some (g,0,n) else if b < G then some (b,0,0) else none
def tabBG (G : Nat) : Fr := ⟨fun _ => False,fun r => r < G⟩
theorem tab_startG {g G : Nat} (hg : g < G) (hG : G ≤ 2 ^ HD) {k : IntKind} {zs : List Int} {w : World} {t : TypeId} {fr : Nat × Nat} (hb : w.heap[g]? = some (.cells (zs.map fun z => Value.int k z).toArray t fr)) : HS (tabSG g G zs.length) (tabHG g k zs) G w (tabBG G) w := by
 have hget : ∀ b,b < 2 ^ HD → cget HD (tabHG g k zs) b = if b = g then .cells 0 zs.length true (cmk (fun i => .int k (zs.getD i 0)) (lg zs.length) 0 zs.length) else .dead := fun b hlt => by
  unfold tabHG
  rw [cget_cput HD H0 g b _ om hlt]
  split
  ·rfl
  ·exact cget_unid 18 .dead b
 have hdom : ∀ b p,tabSG g G zs.length b = some p → b < G ∧ p.1 = b := fun b p h => by
  unfold tabSG at h
  by_cases h0 : b = g
  ·rw [if_pos h0] at h; simp only [Option.some.injEq] at h; rw [← h]; exact ⟨by omega,h0.symm⟩
  ·rw [if_neg h0] at h
   by_cases h1 : b < G
   ·rw [if_pos h1] at h; simp only [Option.some.injEq] at h; rw [← h]; exact ⟨h1,rfl⟩
   ·rw [if_neg h1] at h; cases h
 refine ⟨rfl,rfl,rfl,Nat.le_refl _,fun _ _ _ => rfl,fun b hlt => ?_,fun b p h => (hdom b p h).1,hG,fun b b' p p' hne h h' hl => ?_,fun b p h hl => ?_⟩
 ·rw [hget b hlt]
  by_cases h0 : b = g
  ·rw [if_pos h0,h0]
   refine ⟨g,0,zs.length,_,fr,t,by simp [tabSG],hb,by simp,⟨rfl,by omega,fun h => by omega⟩,fun i hi => ⟨.int k (zs.getD i 0),?_,rfl,?_⟩,(fun h => by cases h),(fun h => by rcases h with h | h <;> simp at h)⟩
   ·simp [hi]
   ·rw [cget_cmk _ _ _ _ _ (lg_le _) hi,Nat.zero_add]; exact .int _ _
  ·rw [if_neg h0]; trivial
 ·have hlt : b < 2 ^ HD := by have := (hdom b p h).1; omega
  rw [hget b hlt] at hl
  split at hl <;> simp [liveW] at hl
 ·left
  show p.1 < G
  rw [(hdom b p h).2]; exact (hdom b p h).1
theorem closed_tabG {g G : Nat} (hg : g < G) (hGG : G ≤ 2 ^ HD) {P : Program} {X : KF} {N k f : Nat} {kd : IntKind} {zs : List Int} (hX : XOk P G X) (hr : (bif callC P G X N k (2 * f) [] (tabHG g kd zs) G isT then true else false) = true) {w : World} {t : TypeId} {fr : Nat × Nat}
  (hb : w.heap[g]? = some (.cells (zs.map fun z => Value.int kd z).toArray t fr)) : Calls P f #[] w fun e w' => e = .returned (.bool true) ∧ K.Ext [] w w' := by
 obtain ⟨h',nx',hrun⟩ := run_true hr
 have hG : GRel (tabSG g G zs.length) G := fun q hq => by
  by_cases h0 : q = g
  ·exact ⟨zs.length,by rw [h0]; simp [tabSG]⟩
  ·exact ⟨0,by unfold tabSG; rw [if_neg h0,if_pos hq]⟩
 have hc := callA_ok hX k (2 * f) [] (tabHG g kd zs) G _ _ _ hrun (tabSG g G zs.length) w (tabBG G) w [] (tab_startG hg hGG hb) hG ⟨rfl,fun i a v ha => by simp at ha⟩
 unfold CalleeOk at hc
 rw [if_pos om,show 2 * f / 2 = f by omega] at hc
 refine hc.2.mono ?_
 rintro e w' ⟨σ',v',_,_,_,rfl,hr,H⟩
 cases hr
 exact ⟨rfl,H.os,H.tape,H.output,H.size,fun k hk _ => H.block k hk (fun h => h)⟩
end I
end Go.Proofs.YtinhinjpfmdfiaaGreatDoor
namespace Go.Proofs.YtinhinjpfmdfiaaGreatDoor
open K
set_option linter.unusedVariables false
theorem row_at (bl : List UInt8) : ∀ (n j : Nat),j < n → n ≤ 64 → rg (row bl n) j = wnext bl (row bl j) j
 | n + 1,j,h,hn => by
  rw [row]
  unfold rg
  rw [List.getD_eq_getElem?_getD,List.getElem?_set]
  by_cases hj : n = j
  ·subst hj
   rw [if_pos rfl,if_pos (by rw [row_len]; omega)]; rfl
  ·rw [if_neg hj,← List.getD_eq_getElem?_getD]
   exact row_at bl n j om om
theorem row_low (bl : List UInt8) {t j : Nat} (hj : j < t) (ht : t ≤ 64) : rg (row bl t) j = rg (row bl 64) j := by
 rw [row_at bl t j hj ht,row_at bl 64 j om (Nat.le_refl _)]
namespace I
noncomputable def goK {β : Type} (c : W8 → β) : List Nat → List Nat → List Nat → W8 → β
 | [],_,_,s => c s
 | k :: ks,bs,win,s =>
  fN (match bs with | b :: _ => b | [] => wn4 (win.getD 1 0) (win.getD 6 0) (win.getD 14 0) (win.getD 15 0)) fun w =>
  fN (frst k w s) fun f1 => fN ((f1 + scnd s) % 4294967296) fun a => fN ((s.d + f1) % 4294967296) fun e =>
  goK c ks bs.tail (w :: win) ⟨a,s.a,s.b,s.c,e,s.e,s.f,s.g⟩
def wds (bl : List UInt8) : List Nat := (List.range 16).map (shBe bl)
theorem goK_ok {β : Type} (c : W8 → β) (hs : List Nat) (bl : List UInt8) : ∀ (m t : Nat),t + m = 64 → goK c (Kc.drop t) ((wds bl).drop t) (((row bl 64).take t).reverse) (rv hs bl t) = c (rv hs bl 64)
 | 0,t,h => by
  obtain rfl : t = 64 := by omega
  rfl
 | m + 1,t,h => by
  have ht : t < 64 := by omega
  have hk : Kc.drop t = rg Kc t :: Kc.drop (t + 1) := by
   rw [List.drop_eq_getElem_cons (show t < Kc.length from ht)]
   unfold rg
   rw [List.getD_eq_getElem?_getD,List.getElem?_eq_getElem (show t < Kc.length from ht)]; rfl
  have hw : (match (wds bl).drop t with | b :: _ => b | [] => wn4 ((((row bl 64).take t).reverse).getD 1 0) ((((row bl 64).take t).reverse).getD 6 0) ((((row bl 64).take t).reverse).getD 14 0) ((((row bl 64).take t).reverse).getD 15 0)) = rg (row bl 64) t := by
   rw [row_at bl 64 t ht (Nat.le_refl _)]
   unfold wnext
   by_cases h16 : t < 16
   ·rw [if_pos h16,List.drop_eq_getElem_cons (show t < (wds bl).length by simp [wds]; omega)]
    simp [wds]
   ·rw [if_neg h16,List.drop_eq_nil_of_le (show (wds bl).length ≤ t by simp [wds]; omega)]
    have hg : ∀ i,i < 16 → (((row bl 64).take t).reverse).getD i 0 = rg (row bl t) (t - 1 - i) := fun i hi => by
     rw [row_low bl (show t - 1 - i < t by omega) om]
     unfold rg
     have hl : ((row bl 64).take t).length = t := by rw [List.length_take,row_len]; omega
     rw [List.getD_eq_getElem?_getD,List.getElem?_reverse om,hl,List.getElem?_take,if_pos om,List.getD_eq_getElem?_getD]
    simp only
    rw [hg 1 om,hg 6 om,hg 14 om,hg 15 om,show t - 1 - 1 = t - 2 by omega,show t - 1 - 6 = t - 7 by omega,show t - 1 - 14 = t - 15 by omega,show t - 1 - 15 = t - 16 by omega]
  rw [hk]
  unfold goK
  rw [fN_eq,fN_eq,fN_eq,fN_eq,hw]
  have hr : rg (row bl 64) t :: ((row bl 64).take t).reverse = ((row bl 64).take (t + 1)).reverse := by
   rw [List.take_succ_eq_append_getElem (show t < (row bl 64).length by rw [row_len]; omega),List.reverse_append]
   unfold rg
   rw [List.getD_eq_getElem?_getD,List.getElem?_eq_getElem (show t < (row bl 64).length by rw [row_len]; omega)]; rfl
  have hd : ((wds bl).drop t).tail = (wds bl).drop (t + 1) := by rw [List.tail_drop]
  rw [hr,hd]
  have := goK_ok c hs bl m (t + 1) om
  rw [rv_succ] at this
  rw [← rnd_def]
  exact this
def addW (x y : W8) : W8 := ⟨(x.a + y.a) % 4294967296,(x.b + y.b) % 4294967296,(x.c + y.c) % 4294967296,(x.d + y.d) % 4294967296,(x.e + y.e) % 4294967296,(x.f + y.f) % 4294967296,(x.g + y.g) % 4294967296,(x.h + y.h) % 4294967296⟩
theorem sm_add (x y : W8) : sm (w8l x) (w8l y) 8 = w8l (addW x y) := rfl
noncomputable def fW {β : Type} (x : W8) (c : W8 → β) : β :=
 fN x.a fun a => fN x.b fun b => fN x.c fun c' => fN x.d fun d => fN x.e fun e => fN x.f fun f => fN x.g fun g => fN x.h fun h => c ⟨a,b,c',d,e,f,g,h⟩
theorem fW_eq {β : Type} (x : W8) (c : W8 → β) : fW x c = c x := by simp only [fW,fN_eq]
noncomputable def wordsK {β : Type} (c : List Nat → List Nat → β) : Nat → List Nat → List Nat → β
 | 0,bs,acc => c acc bs
 | m + 1,bs,acc => match bs with
  | x :: y :: z :: v :: bs => fN (be4 x y z v) fun w => wordsK c m bs (acc ++ [w])
  | _ => c acc bs
theorem wordsK_ok {β : Type} (c : List Nat → List Nat → β) : ∀ (m : Nat) (bs acc : List Nat),4 * m ≤ bs.length → wordsK c m bs acc = c (acc ++ (List.range m).map fun i => be4 (bs.getD (4 * i) 0) (bs.getD (4 * i + 1) 0) (bs.getD (4 * i + 2) 0) (bs.getD (4 * i + 3) 0)) (bs.drop (4 * m))
 | 0,bs,acc,_ => by simp [wordsK]
 | m + 1,bs,acc,h => by
  match bs,h with
  | x :: y :: z :: v :: bs,h =>
   simp only [List.length_cons] at h
   rw [wordsK,fN_eq,wordsK_ok c m bs _ om,List.range_succ_eq_map,List.map_cons,List.map_map,List.append_assoc]
   have e5 : (x :: y :: z :: v :: bs).drop (4 * (m + 1)) = bs.drop (4 * m) := by rw [show 4 * (m + 1) = 4 * m + 4 by omega]; rfl
   rw [e5]
   congr 2
noncomputable def blkK {β : Type} (c : W8 → β) : Nat → List Nat → W8 → β
 | 0,_,s => c s
 | k + 1,bs,s => wordsK (fun ws rest => goK (fun v => fW (addW s v) fun s' => blkK c k rest s') Kc ws [] s) 16 bs []
theorem un8_get {L : List Nat} (hL : ∀ b ∈ L,b < 256) {i : Nat} (h : i < 64) (hl : 64 ≤ L.length) : L.getD i 0 = bt4 (un8 (L.take 64)) i := by
 have h1 : i < L.length := by omega
 unfold bt4 un8
 rw [List.getD_eq_getElem?_getD,List.getD_eq_getElem?_getD,List.getElem?_map,List.getElem?_take,if_pos h,List.getElem?_eq_getElem h1]
 have := hL _ (List.getElem_mem h1)
 simp only [Option.map_some,Option.getD_some]
 simp
 omega
theorem blkK_ok {β : Type} (c : W8 → β) : ∀ (k : Nat) (L : List Nat) (s : W8),(∀ b ∈ L,b < 256) → L.length = 64 * k → ∃ v,blkK c k L s = c v ∧ w8l v = mixes k (un8 L) (w8l s)
 | 0,L,s,_,_ => ⟨s,rfl,rfl⟩
 | k + 1,L,s,hL,hl => by
  have hw : (List.range 16).map (fun i => be4 (L.getD (4 * i) 0) (L.getD (4 * i + 1) 0) (L.getD (4 * i + 2) 0) (L.getD (4 * i + 3) 0)) = wds (un8 (L.take 64)) := by
   unfold wds
   apply List.map_congr_left
   intro i hi
   have := List.mem_range.1 hi
   unfold shBe
   rw [un8_get hL om om,un8_get hL om om,un8_get hL om om,un8_get hL om om]
  have hg := goK_ok (fun v => fW (addW s v) fun s' => blkK c k (L.drop 64) s') (w8l s) (un8 (L.take 64)) 64 0 rfl
  obtain ⟨v,h1,h2⟩ := blkK_ok c k (L.drop 64) (addW s (rv (w8l s) (un8 (L.take 64)) 64)) (fun b hb => hL b (List.mem_of_mem_drop hb)) (by rw [List.length_drop]; omega)
  refine ⟨v,?_,?_⟩
  ·unfold blkK
   rw [wordsK_ok _ 16 L [] om,hw,List.nil_append]
   have e0 : rv (w8l s) (un8 (L.take 64)) 0 = s := rfl
   rw [List.drop_zero,List.drop_zero,List.take_zero,e0] at hg
   refine Eq.trans hg ?_
   rw [fW_eq]; exact h1
  ·rw [h2,mixes]
   have e1 : (un8 L).drop 64 = un8 (L.drop 64) := by unfold un8; rw [List.map_drop]
   have e2 : (un8 L).take 64 = un8 (L.take 64) := by unfold un8; rw [List.map_take]
   rw [e1,e2]
   unfold mixF
   rw [sm_add]
noncomputable def bytesK {β : Type} (c : List Nat → β) : Nat → Nat → List Nat → β
 | 0,_,acc => c acc
 | n + 1,x,acc => fN (x % 256) fun b => fN (x / 256) fun y => bytesK c n y (b :: acc)
theorem val_snoc (l : List UInt8) (b : UInt8) : val (l ++ [b]) = val l * 256 + b.toNat := by
 have h : ∀ (l : List UInt8) (a : Nat),strOf (l ++ [b]) a = strOf l a * 256 + b.toNat := by
  intro l
  induction l with
  | nil => intro a; rfl
  | cons x l ih => intro a; exact ih _
 exact h l 0
theorem bytesK_ok {β : Type} (c : List Nat → β) : ∀ (n : Nat) (l : List UInt8) (acc : List Nat),l.length = n → bytesK c n (val l) acc = c (l.map UInt8.toNat ++ acc)
 | 0,l,acc,h => by rw [List.eq_nil_of_length_eq_zero h]; rfl
 | n + 1,l,acc,h => by
  obtain ⟨l',b,rfl⟩ : ∃ l' b,l = l' ++ [b] := by
   rcases List.eq_nil_or_concat l with h0 | ⟨l',b,h0⟩
   ·rw [h0] at h; cases h
   ·exact ⟨l',b,by rw [h0]; simp⟩
  have hb : b.toNat < 256 := UInt8.toNat_lt b
  rw [bytesK,fN_eq,fN_eq,val_snoc,show (val l' * 256 + b.toNat) % 256 = b.toNat by omega,show (val l' * 256 + b.toNat) / 256 = val l' by omega,bytesK_ok c n l' _ (by rw [List.length_append] at h; simpa using h)]
  simp
noncomputable def catK {β : Type} : List (Nat × Nat) → List Nat → (List Nat → β) → β
 | [],acc,c => c acc
 | p :: r,acc,c => catK r acc fun acc' => bytesK c p.1 p.2 acc'
theorem catK_ok {β : Type} : ∀ (ss : List ByteArray) (acc : List Nat) (c : List Nat → β),catK (ss.map fun s => (s.size,val s.data.toList)) acc c = c ((scat ss).map UInt8.toNat ++ acc)
 | [],acc,c => rfl
 | s :: ss,acc,c => by
  rw [List.map_cons,catK,catK_ok ss acc]
  rw [bytesK_ok c s.size s.data.toList _ (by simp)]
  rw [← List.append_assoc,← List.map_append]
  rfl
def totK (l : List (Nat × Nat)) : Nat := l.foldr (fun p n => p.1 + n) 0
theorem totK_ok : ∀ (ss : List ByteArray),totK (ss.map fun s => (s.size,val s.data.toList)) = (scat ss).length
 | [] => rfl
 | s :: ss => by
  have ih := totK_ok ss
  unfold totK at *
  rw [List.map_cons,List.foldr_cons,ih]
  have : scat (s :: ss) = s.data.toList ++ scat ss := rfl
  rw [this,List.length_append]
  simp
def W0 : W8 := ⟨1779033703,3144134277,1013904242,2773480762,1359893119,2600822924,528734635,1541459225⟩
noncomputable def fB4 {β : Type} (x : Nat) (c : AV → β) : β :=
 fN (x / 16777216 % 256) fun p => fN (x / 65536 % 256) fun q => fN (x / 256 % 256) fun r => fN (x % 256) fun s => c (.node (.node (.int .u8 (.ofNat p)) (.int .u8 (.ofNat q))) (.node (.int .u8 (.ofNat r)) (.int .u8 (.ofNat s))))
def t4 (x : Nat) : AV := .node (.node (.int .u8 (.ofNat (x / 16777216 % 256))) (.int .u8 (.ofNat (x / 65536 % 256)))) (.node (.int .u8 (.ofNat (x / 256 % 256))) (.int .u8 (.ofNat (x % 256))))
theorem fB4_eq {β : Type} (x : Nat) (c : AV → β) : fB4 x c = c (t4 x) := by simp only [fB4,fN_eq,t4]
def t32 (v : W8) : AV := .node (.node (.node (t4 v.a) (t4 v.b)) (.node (t4 v.c) (t4 v.d))) (.node (.node (t4 v.e) (t4 v.f)) (.node (t4 v.g) (t4 v.h)))
noncomputable def outK {β : Type} (c : AV → β) (v : W8) : β :=
 fB4 v.a fun a => fB4 v.b fun b => fB4 v.c fun c' => fB4 v.d fun d => fB4 v.e fun e => fB4 v.f fun f => fB4 v.g fun g => fB4 v.h fun h =>
 c (.node (.node (.node a b) (.node c' d)) (.node (.node e f) (.node g h)))
theorem outK_eq {β : Type} (c : AV → β) (v : W8) : outK c v = c (t32 v) := by simp only [outK,fB4_eq,t32]
noncomputable def shaK {β : Type} (l : List (Nat × Nat)) (c : AV → β) : β := fN (totK l) fun N => catK l (tailN N) fun L => blkK (outK c) (L.length / 64) L W0
theorem shaK_ok {β : Type} (ss : List ByteArray) (c : AV → β) : ∃ v,shaK (ss.map fun s => (s.size,val s.data.toList)) c = c (t32 v) ∧ shaD (scat ss) = dgr (w8l v) 8 := by
 have hl : ((scat ss).map UInt8.toNat ++ tailN (scat ss).length).length = 64 * (((scat ss).map UInt8.toNat ++ tailN (scat ss).length).length / 64) := by
  have := tailN_len (scat ss).length
  rw [List.length_append,List.length_map]; omega
 have hb : ∀ b ∈ (scat ss).map UInt8.toNat ++ tailN (scat ss).length,b < 256 := by
  intro b hb
  rcases List.mem_append.1 hb with hb | hb
  ·obtain ⟨x,_,rfl⟩ := List.mem_map.1 hb
   exact UInt8.toNat_lt x
  ·unfold tailN at hb
   rcases List.mem_cons.1 hb with rfl | hb
   ·decide
   ·rcases List.mem_append.1 hb with hb | hb
    ·rw [(List.mem_replicate.1 hb).2]; decide
    ·obtain ⟨i,_,rfl⟩ := List.mem_map.1 hb
     exact Nat.mod_lt _ (by decide)
 obtain ⟨v,h1,h2⟩ := blkK_ok (outK c) _ _ W0 hb hl
 refine ⟨v,?_,?_⟩
 ·unfold shaK
  rw [fN_eq,totK_ok,catK_ok,h1,outK_eq]
 ·have hu : un8 ((scat ss).map UInt8.toNat ++ tailN (scat ss).length) = scat ss ++ un8 (tailN (scat ss).length) := by
   unfold un8
   rw [List.map_append,List.map_map]
   congr 1
   conv => rhs; rw [← List.map_id (scat ss)]
   apply List.map_congr_left
   intro b _
   simp
  rw [hu] at h2
  have hk : (scat ss).length + (tailN (scat ss).length).length = 64 * (((scat ss).map UInt8.toNat ++ tailN (scat ss).length).length / 64) := by
   rw [List.length_append,List.length_map] at hl ⊢; exact hl
  rw [shaD_mixes (scat ss) hk,h2]
  rfl
noncomputable def tabL (t : AV) : List Nat → Nat → Bool
 | [],_ => true
 | k :: ks,i => (match cget 6 t i with | .int .u32 (.ofNat m) => Nat.beq m k | _ => false) && tabL t ks (i + 1)
theorem tabL_ok (t : AV) : ∀ (ks : List Nat) (i : Nat),tabL t ks i = true → ∀ j,j < ks.length → cget 6 t (i + j) = .int .u32 (.ofNat (rg ks j))
 | k :: ks,i,h,j,hj => by
  rw [tabL,Bool.and_eq_true] at h
  cases j with
  | zero =>
   have h1 := h.1
   split at h1
   ·rename_i m hm
    rw [Nat.add_zero,hm,beqn_iff.1 h1]; rfl
   ·cases h1
  | succ j =>
   have := tabL_ok t ks (i + 1) h.2 j (by simpa using hj)
   rw [show i + (j + 1) = i + 1 + j by omega,this]; rfl
noncomputable def strsK (d : Nat) (t : AV) : Nat → Nat → Option (List (Nat × Nat))
 | 0,_ => some []
 | k + 1,off => match cget d t off with
  | .str m x => match strsK d t k (off + 1) with
   | some l => some ((m,x) :: l)
   | none => none
  | _ => none
theorem strsK_ok {σ : Sg} {d : Nat} {t : AV} {cs : Array Value} : ∀ (k off : Nat) (l : List (Nat × Nat)),(∀ i,i < k → ∃ v,cs[off + i]? = some v ∧ Rel σ (cget d t (off + i)) v) → strsK d t k off = some l →
  ∃ ss : List ByteArray,ss.length = k ∧ l = ss.map (fun s => (s.size,val s.data.toList)) ∧ ∀ i,i < k → cs[off + i]? = some (.string (ssat ss i))
 | 0,off,l,_,h => by
  simp only [strsK,Option.some.injEq] at h
  exact ⟨[],rfl,by rw [← h]; rfl,fun i hi => absurd hi (Nat.not_lt_zero i)⟩
 | k + 1,off,l,hc,h => by
  unfold strsK at h
  split at h
  ·rename_i m x hm
   split at h
   ·rename_i l' hl
    simp only [Option.some.injEq] at h
    obtain ⟨v,h1,h2⟩ := hc 0 (Nat.succ_pos k)
    rw [Nat.add_zero] at h1 h2
    rw [hm] at h2
    cases h2 with
    | str s _ _ hn hx =>
    obtain ⟨ss,e1,e2,e3⟩ := strsK_ok k (off + 1) l' (fun i hi => by
     have := hc (i + 1) om
     rw [show off + (i + 1) = off + 1 + i by omega] at this; exact this) hl
    refine ⟨s :: ss,by rw [List.length_cons,e1],by rw [← h,e2,hn,hx]; rfl,fun i hi => ?_⟩
    cases i with
    | zero => exact h1
    | succ i => rw [show off + (i + 1) = off + 1 + i by omega]; exact e3 i om
   ·cases h
  ·cases h
noncomputable def sumX (fn : Nat) : KF := fun f args h nx =>
 bif Nat.beq f fn then match cget HD h 1 with
  | .cells _ n0 _ t0 => bif Nat.beq n0 64 && tabL t0 Kc 0 then match args with
   | [.nils] => shaK [] fun d => some (.agg 32 d,h,nx)
   | [.sl b off len lb 1] => match cget HD h b with
    | .cells _ n _ t => bif Nat.ble (off + len) n && Nat.ble len 1000000 then match strsK (lg n) t len off with
     | some l => shaK l fun d => some (.agg 32 d,h,nx)
     | none => none
     else none
    | _ => none
   | _ => none
   else none
  | _ => none
 else none
structure ShaSum (P : Program) (fn : Nat) : Prop where
 has : ∃ f c,P.funcs[fn]? = some f ∧ (f.name == "runtime.NumGoroutine") = false ∧ f.body = some c
 sum : ∀ (la : Option Addr) (cap : Nat) (ss : List ByteArray) (Rl : List (Nat × Obj)) (kt : Array Value) (t0 : TypeId) (fr0 : Nat × Nat) (w : World),InS Rl la ss.length (fun j => .string (ssat ss j)) → ss.length ≤ maxLen →
  Has w ((1,.cells kt t0 fr0) :: Rl) → KT kt → Calls P fn #[.slice la ss.length cap] w fun e w' => e = .returned (.agg (bv (shaD (scat ss)))) ∧ Ext [] w w'
theorem t32_get (v : W8) : ∀ i,i < 32 → cget 5 (t32 v) i = .int .u8 (Int.ofNat ((dgr (w8l v) 8).getD i 0).toNat)
 | 0,_ => rfl
 | 1,_ => rfl
 | 2,_ => rfl
 | 3,_ => rfl
 | 4,_ => rfl
 | 5,_ => rfl
 | 6,_ => rfl
 | 7,_ => rfl
 | 8,_ => rfl
 | 9,_ => rfl
 | 10,_ => rfl
 | 11,_ => rfl
 | 12,_ => rfl
 | 13,_ => rfl
 | 14,_ => rfl
 | 15,_ => rfl
 | 16,_ => rfl
 | 17,_ => rfl
 | 18,_ => rfl
 | 19,_ => rfl
 | 20,_ => rfl
 | 21,_ => rfl
 | 22,_ => rfl
 | 23,_ => rfl
 | 24,_ => rfl
 | 25,_ => rfl
 | 26,_ => rfl
 | 27,_ => rfl
 | 28,_ => rfl
 | 29,_ => rfl
 | 30,_ => rfl
 | 31,_ => rfl
 | n + 32,h => absurd h om
theorem t32_rel {σ : Sg} {v : W8} {l : List UInt8} (h : l = dgr (w8l v) 8) : Rel σ (.agg 32 (t32 v)) (.agg (bv l)) := by
 have hl : l.length = 32 := by rw [h]; exact dgr_len (Nat.le_refl 8)
 refine .agg 32 _ _ ((bv_size _).trans hl) (fun i u hu => all_bv _ _ (List.mem_of_getElem? (by rw [Array.getElem?_toList]; exact hu))) (fun i u hu => ?_)
 have hi : i < 32 := by
  have := (Array.getElem?_eq_some_iff.1 hu).1
  rw [bv_size,hl] at this; exact this
 rw [bv_get hl hi] at hu
 simp only [Option.some.injEq] at hu
 show Rel σ (cget 5 (t32 v) i) u
 rw [t32_get v i hi,← hu,h]
 exact .int _ _
theorem sumX_ok {P : Program} {G fn : Nat} (S : ShaSum P fn) (hG : 1 < G) : XOk P G (sumX fn) := by
 intro f args h nx v h' nx' hh
 unfold sumX at hh
 cases hf : Nat.beq f fn with
 | false => simp [hf] at hh
 | true =>
  have := beqn_iff.1 hf
  subst this
  simp only [hf,cond_true] at hh
  intro σ w0 B w vs H hg hr
  unfold CalleeOk
  rw [if_pos om,show 2 * f / 2 = f by omega]
  refine ⟨S.has,?_⟩
  split at hh
  ·rename_i ty0 n0 ro0 t0 hc0
   cases hz : (Nat.beq n0 64 && tabL t0 Kc 0) with
   | false => simp [hz] at hh
   | true =>
    simp only [hz,cond_true] at hh
    rw [Bool.and_eq_true] at hz
    have hn0 := beqn_iff.1 hz.1
    subst hn0
    obtain ⟨size0,hs0⟩ := hg 1 hG
    obtain ⟨cs0,fr0,tt0,g1,g2,⟨_,g3,_⟩,g4,_⟩ := H.cells hs0 hc0
    have hK : KT cs0 := fun t ht => by
     obtain ⟨u,u1,u2,u3⟩ := g4 t ht
     have hq := tabL_ok t0 Kc 0 hz.2 t ht
     rw [Nat.zero_add] at hq u1
     rw [show lg 64 = 6 from rfl,hq] at u3
     cases u3
     exact u1
    have fin : ∀ (la : Option Addr) (cap : Nat) (ss : List ByteArray) (Rl : List (Nat × Obj)),InS Rl la ss.length (fun j => .string (ssat ss j)) → ss.length ≤ maxLen → Has w Rl → vs = [.slice la ss.length cap] →
      shaK (ss.map fun s => (s.size,val s.data.toList)) (fun d => some (AV.agg 32 d,h,nx)) = some (v,h',nx') →
      Calls P f vs.toArray w fun e w' => ∃ σ' v',SubX nx σ σ' ∧ Dk nx h h' ∧ nx ≤ nx' ∧ e = .returned v' ∧ Rel σ' v v' ∧ HS σ' h' nx' w0 B w' := by
     intro la cap ss Rl hI hn hR hv hk
     obtain ⟨x,k1,k2⟩ := shaK_ok ss (fun d => some (AV.agg 32 d,h,nx))
     rw [k1] at hk
     simp only [Option.some.injEq,Prod.mk.injEq] at hk
     obtain ⟨rfl,rfl,rfl⟩ := hk
     rw [hv]
     refine (S.sum la cap ss Rl cs0 tt0 fr0 w hI hn (fun e he => by
      rcases List.mem_cons.1 he with rfl | he
      ·exact g1
      ·exact hR e he) hK).mono ?_
     rintro e w' ⟨rfl,hE⟩
     exact ⟨σ,_,SubX.refl _ _,Dk.refl _ _,Nat.le_refl _,rfl,t32_rel k2,H.more (fun k hk => hE.block k hk (by simp)) hE.size hE.os hE.tape hE.output⟩
    obtain ⟨hrl,hri⟩ := hr
    split at hh
    ·match vs,hrl with
     | [u],_ =>
      have := hri 0 _ u rfl rfl
      cases this
      exact fin none 0 [] [] (fun h => absurd h (by simp)) (by simp [maxLen]) (fun _ h => by cases h) rfl hh
    ·rename_i b off len lb
     match vs,hrl with
     | [u],_ =>
      have hu := hri 0 _ u rfl rfl
      cases hu with
      | sl _ _ _ _ _ r base size o cap q1 q2 q3 q4 q5 =>
      split at hh
      ·rename_i ty n ro t hc
       cases hq : (Nat.ble (off + len) n && Nat.ble len 1000000) with
       | false => simp [hq] at hh
       | true =>
        simp only [hq,cond_true] at hh
        rw [Bool.and_eq_true] at hq
        have hle := ble_iff.1 hq.1
        have hle2 := ble_iff.1 hq.2
        obtain ⟨cs,fr,tt,p1,p2,⟨rfl,p3,_⟩,p4,_⟩ := H.cells q1 hc
        split at hh
        ·rename_i l hl
         obtain ⟨ss,e1,e2,e3⟩ := strsK_ok (σ := σ) (cs := cs) len off l (fun i hi => by
          obtain ⟨u,u1,_,u3⟩ := p4 (off + i) om
          exact ⟨u,by rw [Nat.zero_add] at u1; exact u1,u3⟩) hl
         subst e2
         refine fin (some ⟨r,o,none⟩) cap ss [(r,.cells cs tt fr)] (fun h0 => ⟨r,o,cs,tt,fr,rfl,List.mem_singleton.2 rfl,fun j hj => ?_⟩) (by rw [e1]; unfold maxLen; omega) (fun e he => by rw [List.mem_singleton.1 he]; exact p1) (by rw [e1]) hh
         have ho := q4 om
         rw [ho,Nat.zero_add]
         exact e3 j om
        ·cases hh
      ·cases hh
    ·cases hh
  ·cases hh
end I
theorem shaSumI : I.ShaSum Tryz.prog 126 := ⟨⟨_,_,Tryz.func126,rfl,rfl⟩,fun la cap ss Rl kt t0 fr0 w hI hn hR hK => shaSum la cap ss Rl w hI hn hR hK⟩
end Go.Proofs.YtinhinjpfmdfiaaGreatDoor
namespace Go.Proofs.YtinhinjpfmdfiaaGreatDoor
open K
set_option linter.unusedVariables false
namespace I
noncomputable def refX (fn : Nat) : KF := fun f args h nx => bif Nat.beq f fn then match args with
 | [.str n x] => bif Nat.ble n 100000000 then shaK [(n,x)] fun d => some (.agg 32 d,h,nx) else none
 | _ => none else none
structure RefSum (P : Program) (fn : Nat) : Prop where
 has : ∃ f c,P.funcs[fn]? = some f ∧ (f.name == "runtime.NumGoroutine") = false ∧ f.body = some c
 sum : ∀ (s : ByteArray) (w : World),s.size ≤ 100000000 → Calls P fn #[.string s] w fun e w' => e = .returned (.agg (bv (shaD s.data.toList))) ∧ Ext [] w w'
theorem refX_ok {P : Program} {G fn : Nat} (S : RefSum P fn) : XOk P G (refX fn) := by
 intro f args h nx v h' nx' hh
 unfold refX at hh
 cases hf : Nat.beq f fn with
 | false => simp [hf] at hh
 | true =>
  have := beqn_iff.1 hf
  subst this
  simp only [hf,cond_true] at hh
  intro σ w0 B w vs H hg hr
  unfold CalleeOk
  rw [if_pos om,show 2 * f / 2 = f by omega]
  refine ⟨S.has,?_⟩
  obtain ⟨hrl,hri⟩ := hr
  split at hh
  ·rename_i n x
   match vs,hrl with
   | [u],_ =>
    have hu := hri 0 _ u rfl rfl
    cases hu with
    | str s _ _ hn hx =>
    cases hb : Nat.ble n 100000000 with
    | false => simp [hb] at hh
    | true =>
     simp only [hb,cond_true] at hh
     obtain ⟨y,k1,k2⟩ := shaK_ok [s] (fun d => some (AV.agg 32 d,h,nx))
     simp only [List.map_cons,List.map_nil] at k1
     rw [hn,hx,k1] at hh
     simp only [Option.some.injEq,Prod.mk.injEq] at hh
     obtain ⟨rfl,rfl,rfl⟩ := hh
     rw [scat_one] at k2
     have hle := ble_iff.1 hb
     refine (S.sum s w om).mono ?_
     rintro e w' ⟨rfl,hE⟩
     exact ⟨σ,_,SubX.refl _ _,Dk.refl _ _,Nat.le_refl _,rfl,t32_rel k2,H.more (fun k hk => hE.block k hk (by simp)) hE.size hE.os hE.tape hE.output⟩
  ·cases hh
end I
theorem refSumI : I.RefSum Tryz.prog 27 := ⟨⟨_,_,Tryz.func27,rfl,rfl⟩,fun s w hs => rSum s w hs⟩
end Go.Proofs.YtinhinjpfmdfiaaGreatDoor
namespace Go.Proofs.YtinhinjpfmdfiaaGreatDoor
open K
set_option linter.unusedVariables false
def mD : List UInt8 := [158,222,150,142,0,90,35,255,82,116,188,73,206,44,141,204,36,169,10,130,38,37,42,183,174,142,187,78,32,23,77,54]
theorem mD_len : mD.length = 32 := rfl
def omM : OM := ⟨109,m0,c0,t0⟩
namespace I
def ofV : Value → AV
 | .int k n => .int k n
 | .slice none 0 0 => .nils
 | .string s => .str s.size (val s.data.toList)
 | _ => .bad
theorem ofV_rel (σ : Sg) (v : Value) : Rel σ (ofV v) v := by
 unfold ofV
 split
 ·exact .int _ _
 ·exact .nils
 ·exact .str _ _ _ rfl rfl
 ·exact .bad _
def aggV (l : List Value) : AV := .agg l.length (cmk (fun i => ofV (l.getD i undef)) (lg l.length) 0 l.length)
theorem aggV_rel (σ : Sg) {l : List Value} (h : ∀ v ∈ l,K.one v = true) : Rel σ (aggV l) (.agg l.toArray) := by
 refine .agg _ _ _ (List.size_toArray ..) (fun i v hv => h v ?_) (fun i v hv => ?_)
 ·rw [List.getElem?_toArray] at hv
  exact List.mem_of_getElem? hv
 ·rw [List.getElem?_toArray] at hv
  obtain ⟨hi,rfl⟩ := List.getElem?_eq_some_iff.1 hv
  rw [cget_cmk _ _ _ _ _ (lg_le _) hi,Nat.zero_add,List.getD_eq_getElem?_getD,List.getElem?_eq_getElem hi]
  exact ofV_rel σ _
def byteIs (d : List UInt8) (t : AV) (i : Nat) : Bool := match cget 5 t i with
 | .int .u8 z => ieq z ((d.getD i 0).toNat : Int)
 | _ => false
def isDg (d : List UInt8) (v _ : AV) (_ : Nat) : Bool := match v with
 | .agg n t => Nat.beq n 32 && (List.range 32).all (byteIs d t)
 | _ => false
theorem isDg_ok {d : List UInt8} (hd : d.length = 32) {σ : Sg} {v h : AV} {nx : Nat} {u : Value} (hh : isDg d v h nx = true) (hr : Rel σ v u) : u = .agg (bv d) := by
 unfold isDg at hh
 split at hh
 ·rename_i n t
  obtain ⟨h1,h2⟩ := Bool.and_eq_true_iff.1 hh
  have hn := Nat.eq_of_beq_eq_true h1
  subst hn
  cases hr with
  | agg _ _ cs hs hone hrel =>
   congr 1
   apply Array.ext
   ·rw [hs,bv_size,hd]
   ·intro i hi hj
    rw [hs] at hi
    have h3 := List.all_eq_true.1 h2 i (List.mem_range.2 hi)
    have h4 := hrel i _ (Array.getElem?_eq_getElem om)
    have h5 : (bv d)[i]? = some (.int .u8 ((d.getD i 0).toNat : Int)) := bv_get (n := 32) hd hi
    rw [Array.getElem?_eq_getElem hj] at h5
    rw [Option.some.inj h5]
    obtain ⟨u,hu⟩ : ∃ u,u = cs[i] := ⟨_,rfl⟩
    rw [← hu] at h4 ⊢
    unfold byteIs at h3
    split at h3
    ·rename_i z hz
     rw [show lg 32 = 5 from rfl,hz] at h4
     cases h4
     rw [ieq_eq] at h3
     rw [of_decide_eq_true h3]
    ·cases h3
 ·cases hh
theorem closed_dg {P : Program} {X : KF} {N k f : Nat} (hX : XOk P 0 X) {l : List Value} {d : List UInt8} (hl : ∀ v ∈ l,K.one v = true) (hd : d.length = 32) (hr : callC P 0 X N k (2 * f) [aggV l] H0 0 (isDg d) = true) (w : World) :
  Calls P f #[.agg l.toArray] w fun e w' => e = .returned (.agg (bv d)) ∧ K.Ext [] w w' := by
 obtain ⟨v,h',nx',hrun,hd2⟩ := callC_ok P 0 X N k _ _ _ _ _ hr
 have hc := callA_ok hX k (2 * f) [aggV l] H0 0 _ _ _ hrun (fun _ => none) w ⟨fun _ => False,fun _ => False⟩ w [.agg l.toArray] (HS.start w _) (fun g hg => by omega) ⟨rfl,fun i a v ha hv => by
  cases i with
  | zero =>
   simp only [List.getElem?_cons_zero,Option.some.injEq] at ha hv
   subst ha; subst hv
   exact aggV_rel _ hl
  | succ i => simp at ha⟩
 unfold CalleeOk at hc
 rw [if_pos om,show 2 * f / 2 = f by omega] at hc
 refine hc.2.mono ?_
 rintro e w' ⟨σ',v',_,_,_,rfl,hr,H⟩
 exact ⟨by rw [isDg_ok hd hd2 hr],H.os,H.tape,H.output,H.size,fun k hk _ => H.block k hk (fun h => h)⟩
end I
set_option maxRecDepth 1000000 in
theorem idm_run : I.callC Tryz.prog 0 (I.refX 27) 10000 100 (2 * 12) [I.aggV (oc omM)] I.H0 0 (I.isDg mD) = true := by kernel_rfl
theorem rIDm (w : World) : Calls Tryz.prog 12 #[.agg (oc omM).toArray] w fun e w' => e = .returned (.agg (bv mD)) ∧ Ext [] w w' :=
 I.closed_dg (I.refX_ok refSumI) (fun v h => all_oc _ v h) mD_len idm_run w
end Go.Proofs.YtinhinjpfmdfiaaGreatDoor
namespace Go.Proofs.YtinhinjpfmdfiaaGreatDoor
open K
set_option linter.unusedVariables false
structure PL where
 tag : Bool
 a : Option Addr
 c : Nat
 par : List Nat
 n : Nat
 t : ByteArray
 lost : Bool
def plz : PL := ⟨false,none,0,[],0,ByteArray.empty,false⟩
def u8c (n : Nat) : List Value := [.int .u8 (n : Int)]
def plc (p : PL) : List Value := [.bool p.tag,.slice p.a p.par.length p.c,.int .u64 (p.n : Int),.string p.t,.bool p.lost]
structure PLok (Rl : List (Nat × Obj)) (p : PL) : Prop where
 i : InF u8c 1 Rl p.a p.par
 l : p.par.length ≤ 9
 n : p.n < 18446744073709551616
 lost : p.lost = false
 b : ∀ x ∈ p.par,x < 256
theorem all_plc (p : PL) : ∀ v ∈ plc p,K.one v = true := by
 intro v h
 simp only [plc,List.mem_cons,List.not_mem_nil,or_false] at h
 rcases h with rfl | rfl | rfl | rfl | rfl <;> rfl
theorem zero_pl : (plc plz).toArray.size = 5 := rfl
def comO (d : List UInt8) (ow : K.Own) (ps : List (List UInt8)) (n : Nat) (t : ByteArray) : OM := ⟨99,m0,⟨d,Own.a ow,Own.c ow,ps,n,t⟩,t0⟩
def tagO (d : List UInt8) (t : ByteArray) : OM := ⟨116,m0,c0,⟨d,t⟩⟩
theorem list32' {d : List UInt8} (h : d.length = 32) : ∃ x0 x1 x2 x3 x4 x5 x6 x7 x8 x9 x10 x11 x12 x13 x14 x15 x16 x17 x18 x19 x20 x21 x22 x23 x24 x25 x26 x27 x28 x29 x30 x31,d = [x0,x1,x2,x3,x4,x5,x6,x7,x8,x9,x10,x11,x12,x13,x14,x15,x16,x17,x18,x19,x20,x21,x22,x23,x24,x25,x26,x27,x28,x29,x30,x31] := by
 match d,h with
 | [x0,x1,x2,x3,x4,x5,x6,x7,x8,x9,x10,x11,x12,x13,x14,x15,x16,x17,x18,x19,x20,x21,x22,x23,x24,x25,x26,x27,x28,x29,x30,x31],_ => exact ⟨x0,x1,x2,x3,x4,x5,x6,x7,x8,x9,x10,x11,x12,x13,x14,x15,x16,x17,x18,x19,x20,x21,x22,x23,x24,x25,x26,x27,x28,x29,x30,x31,rfl⟩
set_option maxRecDepth 100000 in
theorem build_cc {d : List UInt8} (hd : d.length = 32) (n : Nat) (t : ByteArray) (w : World) : (Instr.build 46 #[(0,.agg (bv d)),(2,.int .u64 (n : Int)),(3,.string t)]).run Tryz.prog w = .ok (.agg (cc ⟨d,none,0,[],n,t⟩).toArray) w := by
 obtain ⟨x0,x1,x2,x3,x4,x5,x6,x7,x8,x9,x10,x11,x12,x13,x14,x15,x16,x17,x18,x19,x20,x21,x22,x23,x24,x25,x26,x27,x28,x29,x30,x31,rfl⟩ := list32' hd
 kernel_rfl
set_option maxRecDepth 100000 in
theorem build_co {d : List UInt8} (hd : d.length = 32) (n : Nat) (t : ByteArray) (w : World) : (Instr.build 59 #[(0,.int .u8 99),(2,.agg (cc ⟨d,none,0,[],n,t⟩).toArray)]).run Tryz.prog w = .ok (.agg (oc (comO d none [] n t)).toArray) w := by
 obtain ⟨x0,x1,x2,x3,x4,x5,x6,x7,x8,x9,x10,x11,x12,x13,x14,x15,x16,x17,x18,x19,x20,x21,x22,x23,x24,x25,x26,x27,x28,x29,x30,x31,rfl⟩ := list32' hd
 kernel_rfl
set_option maxRecDepth 100000 in
theorem build_tc {d : List UInt8} (hd : d.length = 32) (t : ByteArray) (w : World) : (Instr.build 57 #[(0,.agg (bv d)),(1,.string t)]).run Tryz.prog w = .ok (.agg (tc ⟨d,t⟩).toArray) w := by
 obtain ⟨x0,x1,x2,x3,x4,x5,x6,x7,x8,x9,x10,x11,x12,x13,x14,x15,x16,x17,x18,x19,x20,x21,x22,x23,x24,x25,x26,x27,x28,x29,x30,x31,rfl⟩ := list32' hd
 kernel_rfl
set_option maxRecDepth 100000 in
theorem build_ta {d : List UInt8} (hd : d.length = 32) (t : ByteArray) (w : World) : (Instr.build 59 #[(0,.int .u8 116),(3,.agg (tc ⟨d,t⟩).toArray)]).run Tryz.prog w = .ok (.agg (oc (tagO d t)).toArray) w := by
 obtain ⟨x0,x1,x2,x3,x4,x5,x6,x7,x8,x9,x10,x11,x12,x13,x14,x15,x16,x17,x18,x19,x20,x21,x22,x23,x24,x25,x26,x27,x28,x29,x30,x31,rfl⟩ := list32' hd
 kernel_rfl
set_option maxRecDepth 100000 in
theorem build_om (w : World) : (Instr.build 59 #[(0,.int .u8 109)]).run Tryz.prog w = .ok (.agg (oc omM).toArray) w := by
 kernel_rfl
set_option maxRecDepth 100000 in
theorem build_th {d : List UInt8} (hd : d.length = 32) {o : OM} (hc : o.c.d.length = 32) (ht : o.t.d.length = 32) (w : World) : (Instr.build 62 #[(0,.agg (bv d)),(1,.agg (oc o).toArray)]).run Tryz.prog w = .ok (.agg (thc ⟨d,o⟩).toArray) w := by
 obtain ⟨k,⟨va,vc,vs,ea,ec,es,ra,rc,rs⟩,⟨d2,pa,pc,ps,n,s⟩,⟨d3,s3⟩⟩ := o
 obtain ⟨x0,x1,x2,x3,x4,x5,x6,x7,x8,x9,x10,x11,x12,x13,x14,x15,x16,x17,x18,x19,x20,x21,x22,x23,x24,x25,x26,x27,x28,x29,x30,x31,rfl⟩ := list32' hd
 obtain ⟨y0,y1,y2,y3,y4,y5,y6,y7,y8,y9,y10,y11,y12,y13,y14,y15,y16,y17,y18,y19,y20,y21,y22,y23,y24,y25,y26,y27,y28,y29,y30,y31,rfl⟩ := list32' hc
 obtain ⟨z0,z1,z2,z3,z4,z5,z6,z7,z8,z9,z10,z11,z12,z13,z14,z15,z16,z17,z18,z19,z20,z21,z22,z23,z24,z25,z26,z27,z28,z29,z30,z31,rfl⟩ := list32' ht
 kernel_rfl
theorem oc_setps {d : List UInt8} (hd : d.length = 32) (ow oz : K.Own) (ps : List (List UInt8)) (n : Nat) (t : ByteArray) (e : List UInt8) : ((oc (comO d ow ps n t)).toArray.setIfInBounds 36 (.slice (Own.a oz) (ps.length + 1) (Own.c oz))) = (oc (comO d oz (ps ++ [e]) n t)).toArray := by
 have hl : (ps ++ [e]).length = ps.length + 1 := by rw [List.length_append]; rfl
 rw [List.setIfInBounds_toArray]
 congr 1
 unfold oc comO cc
 simp only [hl,List.cons_append,List.set_cons_succ,List.append_assoc]
 rw [List.set_append_right _ _ (by rw [dgc_len hd]; exact Nat.le_refl _),dgc_len hd]
 rfl
structure LOk (mD : List UInt8) (T : List Th) (ids : List (List UInt8)) (Tl : List (Nat × Obj)) (i : Nat) : Prop where
 t : ThsOk Tl T
 d : D32 ids
 m : mD ∈ ids
 len : ids.length ≤ i + 1
 tl : T.length ≤ i + 1
 has : ∀ d ∈ ids,∃ t ∈ T,t.id = d
 links : ∀ t ∈ T,∀ d ∈ lk t.o,d ∈ ids
 few : ∀ t ∈ T,(lk t.o).length ≤ 3
theorem LOk.pos {mD : List UInt8} {T : List Th} {ids : List (List UInt8)} {Tl : List (Nat × Obj)} {i : Nat} (h : LOk mD T ids Tl i) : 0 < ids.length := List.length_pos_of_mem h.m
theorem LOk.start {mD : List UInt8} (h : mD.length = 32) : LOk mD [⟨mD,omM⟩] [mD] [] 0 := by
 refine ⟨fun t ht => ?_,fun d hd => ?_,List.mem_cons_self ..,Nat.le_refl _,Nat.le_refl _,fun d hd => ⟨_,List.mem_cons_self ..,(List.mem_singleton.1 hd).symm⟩,fun t ht d hd => ?_,fun t ht => ?_⟩
 ·rw [List.mem_singleton.1 ht]; exact ⟨h,⟨InM.zero _,InC.zero _,d0_len⟩⟩
 ·rw [List.mem_singleton.1 hd]; exact h
 ·rw [List.mem_singleton.1 ht] at hd; cases hd
 ·rw [List.mem_singleton.1 ht]; exact Nat.zero_le _
theorem LOk.skip {mD : List UInt8} {T : List Th} {ids : List (List UInt8)} {Tl : List (Nat × Obj)} {i : Nat} (h : LOk mD T ids Tl i) : LOk mD T ids Tl (i + 1) := ⟨h.t,h.d,h.m,Nat.le_succ_of_le h.len,Nat.le_succ_of_le h.tl,h.has,h.links,h.few⟩
theorem LOk.add {mD : List UInt8} {T : List Th} {ids : List (List UInt8)} {Tl W : List (Nat × Obj)} {i : Nat} (h : LOk mD T ids Tl i) {dI : List UInt8} (hI : dI.length = 32) {o : OM} (ho : InO (W ++ Tl) o) (hl : ∀ d ∈ lk o,d ∈ ids) (hf : (lk o).length ≤ 3) : LOk mD (T ++ [⟨dI,o⟩]) (ids ++ [dI]) (W ++ Tl) (i + 1) := by
 refine ⟨fun t ht => ?_,fun d hd => ?_,List.mem_append_left _ h.m,?_,?_,fun d hd => ?_,fun t ht d hd => ?_,fun t ht => ?_⟩
 ·rcases List.mem_append.1 ht with ht | ht
  ·exact (h.t t ht).mono fun e he => List.mem_append_right _ he
  ·rw [List.mem_singleton.1 ht]; exact ⟨hI,ho⟩
 ·rcases List.mem_append.1 hd with hd | hd
  ·exact h.d d hd
  ·rw [List.mem_singleton.1 hd]; exact hI
 ·have := h.len; rw [List.length_append,List.length_singleton]; omega
 ·have := h.tl; rw [List.length_append,List.length_singleton]; omega
 ·rcases List.mem_append.1 hd with hd | hd
  ·obtain ⟨t,ht,e⟩ := h.has d hd
   exact ⟨t,List.mem_append_left _ ht,e⟩
  ·exact ⟨⟨dI,o⟩,List.mem_append_right _ (List.mem_cons_self ..),(List.mem_singleton.1 hd).symm⟩
 ·rcases List.mem_append.1 ht with ht | ht
  ·exact List.mem_append_left _ (h.links t ht d hd)
  ·rw [List.mem_singleton.1 ht] at hd; exact List.mem_append_left _ (hl d hd)
 ·rcases List.mem_append.1 ht with ht | ht
  ·exact h.few t ht
  ·rw [List.mem_singleton.1 ht]; exact hf
theorem comO_in {mD : List UInt8} (hm : mD.length = 32) {ow : K.Own} {ps : List (List UInt8)} {Tl : List (Nat × Obj)} (hok : OwnOk ow 32 ps.length (ps.flatMap dgc)) (hps : D32 ps) (hl : ps.length ≤ 2) (n : Nat) (t : ByteArray) : InO (Own.o 35 (ps.flatMap dgc) ow ++ Tl) (comO mD ow ps n t) :=
 ⟨InM.zero _,⟨hm,(own_inf hok).mono (fun e he => List.mem_append_left _ he),hps,by show ps.length ≤ _; omega⟩,d0_len⟩
theorem tagO_in {d : List UInt8} (hd : d.length = 32) (t : ByteArray) (Tl : List (Nat × Obj)) : InO Tl (tagO d t) := ⟨InM.zero _,InC.zero _,hd⟩
theorem comO_lk {mD : List UInt8} {ow : K.Own} {ps : List (List UInt8)} {n : Nat} {t : ByteArray} : lk (comO mD ow ps n t) = mD :: ps := if_pos rfl
theorem tagO_lk {d : List UInt8} {t : ByteArray} : lk (tagO d t) = [d] := by
 exact (if_neg (show ¬ (116 : Nat) = 99 by decide)).trans (if_pos rfl)
theorem perm_v (F W X Y Z : List (Nat × Obj)) : (F ++ (W ++ (X ++ (Y ++ (Z ++ []))))).Perm (F ++ (X ++ (Y ++ (W ++ (Z ++ []))))) := by
 exact List.Perm.append_left F ((List.perm_append_comm_assoc W X _).trans (List.Perm.append_left X (List.perm_append_comm_assoc W Y _)))
theorem perm_w (F W X Y Z : List (Nat × Obj)) : (F ++ (X ++ (Y ++ (W ++ (Z ++ []))))).Perm (F ++ (X ++ (Y ++ ((W ++ Z) ++ [])))) := by
 rw [List.append_assoc W Z []]
theorem laid0 {ib tb mb : Nat} {c3 : Obj} {d : List UInt8} {o : OM} : [(ib,.cells (bv d) 35 (0,0)),(tb,.cells (thc ⟨d,o⟩).toArray 62 (0,0)),(mb,c3)].Perm ([(mb,c3)] ++ (Own.o 62 ([(⟨d,o⟩ : Th)].flatMap thc) (some (tb,1,[])) ++ (Own.o 35 ([d].flatMap dgc) (some (ib,1,[])) ++ ([] ++ [])))) := by
 have e1 : Own.o 62 ([(⟨d,o⟩ : Th)].flatMap thc) (some (tb,1,[])) = [(tb,.cells (thc ⟨d,o⟩).toArray 62 (0,0))] := by simp [Own.o]
 have e2 : Own.o 35 ([d].flatMap dgc) (some (ib,1,[])) = [(ib,.cells (bv d) 35 (0,0))] := by simp [Own.o,dgc]
 rw [e1,e2]
 exact ((List.Perm.swap _ _ _).trans (List.Perm.cons _ (List.Perm.swap _ _ _))).trans ((List.Perm.swap _ _ _))
theorem own_th1 {tb : Nat} {d : List UInt8} {o : OM} (hd : d.length = 32) (hc : o.c.d.length = 32) (ht : o.t.d.length = 32) : OwnOk (some (tb,1,[])) 104 1 ([(⟨d,o⟩ : Th)].flatMap thc) := by
 have hl : ([(⟨d,o⟩ : Th)].flatMap thc).length = 104 := by
  rw [List.flatMap_singleton]; unfold thc; rw [List.length_append,dgc_len hd,oc_len hc ht]
 exact ⟨by rw [hl],fun h => (by cases h),fun p hp => by simp only [Option.some.injEq] at hp; subst hp; rw [hl]; exact ⟨rfl,Nat.le_refl _⟩⟩
theorem own_dg1 {ib : Nat} {d : List UInt8} (hd : d.length = 32) : OwnOk (some (ib,1,[])) 32 1 ([d].flatMap dgc) := by
 rw [List.flatMap_singleton]; exact own_one hd
set_option maxRecDepth 100000 in
set_option maxHeartbeats 16000000 in
theorem lLaid (la : Option Addr) (ca : Nat) (l : List PL) (Rl : List (Nat × Obj)) (w : World) (hI : InF plc 5 Rl la l) (hP : ∀ p ∈ l,PLok Rl p) (hR : Has w Rl) (hn : l.length ≤ 16) :
  Calls Tryz.prog 6 #[.slice la l.length ca] w fun e w' => ∃ (T : List Th) (ids : List (List UInt8)) (tO iO : K.Own) (Tl : List (Nat × Obj)),LOk mD T ids Tl 16 ∧ OwnOk tO 104 T.length (T.flatMap thc) ∧ OwnOk iO 32 ids.length (ids.flatMap dgc) ∧ e = .returned (.tuple #[.slice (Own.a tO) T.length (Own.c tO),.slice (Own.a iO) ids.length (Own.c iO)]) ∧ ∃ R1,HP w [] R1 (Own.o 62 (T.flatMap thc) tO ++ (Own.o 35 (ids.flatMap dgc) iO ++ (Tl ++ []))) w' := by
 have hmD := mD_len
 refine enter (vs := [.slice la l.length ca]) [] Rl [] Tryz.func6 rfl kr (HP.ofHas hR) ?_
 refine Rg [0] [] n0 trivial ?_
 refine Cfg.begL rfl ?_
 refine Lp 1 [(0,false,some (.agg (oc omM).toArray))] none (fun S => [(∀ w1,S w1 → (Instr.build 59 #[(0,.int .u8 109)]).run Tryz.prog w1 = .ok (.agg (oc omM).toArray) w1)]) ⟨(fun w1 _ => build_om w1),trivial⟩ ?_
 refine Le (Eff.alloc (z := (.agg (oc o0).toArray)) rfl kr) ?_
 rintro mb ⟨hmb,nmb⟩
 refine Le (Eff.storeN (b := mb) (off := 0) (vs := (oc omM).toArray) (n := 72) rfl kr kr kr (by rw [List.size_toArray,oc_len d0_len d0_len]) (fun q hq => all_oc _ q hq) 0 (cs := (oc o0).toArray) (e := 59) kr (by rw [zero_ob]; decide)) ?_
 rintro ⟨⟩ -
 refine CfgL.setO (congrArg (fun (xq : Array Value) => ([(mb,.cells xq 59 (0,0))] : List (Nat × Obj))) (show _ = ((oc omM).toArray) from spl_all (by first | (rw [List.size_toArray,oc_len d0_len d0_len]; rfl) | rw [List.size_toArray,oc_len d0_len d0_len]))) ?_
 refine CfgL.done rfl ?_
 refine Cg (Γ' := [(4,[],.pointer (some ⟨mb,0,none⟩)),(0,[],.slice la l.length ca)]) ?_
 refine Cfg.begA rfl kr [(mb,.cells ((oc omM).toArray) 59 (0,0))] ?_
 refine Ap [0,2] [(0,false,some (.agg (oc omM).toArray)),(0,false,some (.agg (oc omM).toArray))] none #[true,false,true,false,false,false] (.cons_cons _ .slnil) 4 (fun S => [(∀ w1,S w1 → (loadVar 59 ⟨mb,0,none⟩).run Tryz.prog w1 = .ok (.agg (oc omM).toArray) w1),(∀ w1,S w1 → (loadVar 59 ⟨mb,0,none⟩).run Tryz.prog w1 = .ok (.agg (oc omM).toArray) w1)]) ⟨(fun w1 h => load_list Tryz.underlying59 rfl kr (oc_len d0_len d0_len) (fun j v hj => h.ocell 0 rfl (by rw [List.getElem?_toArray]; exact (fun j v hj => by rw [Nat.zero_add]; exact hj) j v hj))),(fun w1 h => load_list Tryz.underlying59 rfl kr (oc_len d0_len d0_len) (fun j v hj => h.ocell 0 rfl (by rw [List.getElem?_toArray]; exact (fun j v hj => by rw [Nat.zero_add]; exact hj) j v hj))),trivial⟩ ?_
 refine Ae 1 rfl 3  (Eff.callA (vs := [.agg (oc omM).toArray]) (.agg (bv mD)) rfl Tryz.func12 rfl rfl kr (fun w1 _ => rIDm w1)) (fun _ _ => (.cons_cons _ .slnil)) ?_
 rintro ⟨⟩ -
 refine Ap [3] [(0,false,some (.agg (thc ⟨mD,omM⟩).toArray))] (some [0,4,18]) #[true,true,true,true,false,false] (.cons_cons _ .slnil) 2 (fun S => [(∀ w1,S w1 → (Instr.build 62 #[(0,.agg (bv mD)),(1,.agg (oc omM).toArray)]).run Tryz.prog w1 = .ok (.agg (thc ⟨mD,omM⟩).toArray) w1)]) ⟨(fun w1 _ => build_th mD_len d0_len d0_len w1),trivial⟩ ?_
 refine Ae 4 rfl 1  (Eff.buildAgg (vs := (thc ⟨mD,omM⟩).toArray) (n := 104) rfl kr Tryz.underlying30 kr (z := (.agg (thc tz).toArray)) kr (by rw [List.size_toArray]; unfold thc; rw [List.length_append,dgc_len mD_len,oc_len d0_len d0_len]) (by decide) (by decide)) (fun _ _ => (.cons _ (.cons_cons _ .slnil))) ?_
 rintro tb ⟨htb,ntb⟩
 refine Ap [5] [] (some [0,4,5]) #[true,true,true,true,true,true] (.cons _ (.cons_cons _ .slnil)) 0 n0 trivial ?_
 refine CfgA.done kr ?_
 refine Cfg.begL rfl ?_
 refine Lp 1 [(0,false,some (.agg (oc omM).toArray))] none (fun S => [(∀ w1,S w1 → (loadVar 59 ⟨mb,0,none⟩).run Tryz.prog w1 = .ok (.agg (oc omM).toArray) w1)]) ⟨(fun w1 h => load_list Tryz.underlying59 rfl kr (oc_len d0_len d0_len) (fun j v hj => h.ocell 1 rfl (by rw [List.getElem?_toArray]; exact (fun j v hj => by rw [Nat.zero_add]; exact hj) j v hj))),trivial⟩ ?_
 refine Le (Eff.callA (vs := [.agg (oc omM).toArray]) (.agg (bv mD)) rfl Tryz.func12 rfl rfl kr (fun w1 _ => rIDm w1)) ?_
 rintro ⟨⟩ -
 refine Le (Eff.buildAgg (vs := (bv mD)) (n := 32) rfl kr Tryz.underlying31 kr (z := (.agg (bv (List.replicate 32 0)))) kr ((bv_size _).trans mD_len) (by decide) (by decide)) ?_
 rintro ib ⟨hib,nib⟩
 refine Lp 1 [] (some [0,4,5,6]) n0 trivial ?_
 refine CfgL.done rfl ?_
 refine Rg [4,5,6,23,24,25] [] n0 trivial ?_
 refine Cfg.permO (O' := [(mb,.cells ((oc omM).toArray) 59 (0,0))] ++ (Own.o 62 ([(⟨mD,omM⟩ : Th)].flatMap thc) (some (tb,1,[])) ++ (Own.o 35 ([mD].flatMap dgc) (some (ib,1,[])) ++ ([] ++ [])))) laid0 ?_
 refine Cfg.loop rfl (ι := Nat × List Th × List (List UInt8) × K.Own × K.Own × List (Nat × Obj)) (fun (xz : Nat × List Th × List (List UInt8) × K.Own × K.Own × List (Nat × Obj)) => match xz with | (i,T,ids,tO,iO,Tl) => [(25,[],.int .i64 (i : Int)),(24,[],.int .i64 (l.length : Int)),(23,[],.slice la l.length ca),(6,[],.slice (Own.a iO) ids.length (Own.c iO)),(5,[],.slice (Own.a tO) T.length (Own.c tO)),(4,[],.pointer (some ⟨mb,0,none⟩))]) (fun (xz : Nat × List Th × List (List UInt8) × K.Own × K.Own × List (Nat × Obj)) => match xz with | (i,T,ids,tO,iO,Tl) => ([(mb,.cells ((oc omM).toArray) 59 (0,0))] ++ (Own.o 62 (T.flatMap thc) tO ++ (Own.o 35 (ids.flatMap dgc) iO ++ (Tl ++ []))))) (fun (xz : Nat × List Th × List (List UInt8) × K.Own × K.Own × List (Nat × Obj)) => match xz with | (i,T,ids,tO,iO,Tl) => (i ≤ l.length) ∧ (LOk mD T ids Tl i) ∧ (OwnOk tO 104 T.length (T.flatMap thc)) ∧ (OwnOk iO 32 ids.length (ids.flatMap dgc))) (fun (xz : Nat × List Th × List (List UInt8) × K.Own × K.Own × List (Nat × Obj)) => match xz with | (i,T,ids,tO,iO,Tl) => l.length - i) (0,[⟨mD,omM⟩],[mD],some (tb,1,[]),some (ib,1,[]),[]) ?_ (Conv.mk kr) (List.Sublist.refl _) ?_
 ·exact ⟨Nat.zero_le _,LOk.start mD_len,own_th1 mD_len d0_len d0_len,own_dg1 mD_len⟩
 ·rintro ⟨i,T,ids,tO,iO,Tl⟩ ⟨hi,hL,hokT,hokI⟩
  refine Rg [4,5,6,23,24,25,26] [] n0 trivial ?_
  refine Cfg.cond rfl (b := (decide ((i : Int) < (l.length : Int)))) kr (fun c1r => ?_) (fun c1r => ?_)
  ·have c1 := (of_decide_eq_true c1r)
   obtain ⟨sa,offa,csa,tea,frea,rfl,hma,hca⟩ := hI om
   refine Conv.cfg (Γ' := [(26,[],.bool (decide ((i : Int) < (l.length : Int)))),(25,[],.int .i64 (i : Int)),(24,[],.int .i64 (l.length : Int)),(23,[],.slice (some ⟨sa,offa,none⟩) l.length ca),(6,[],.slice (Own.a iO) ids.length (Own.c iO)),(5,[],.slice (Own.a tO) T.length (Own.c tO)),(4,[],.pointer (some ⟨mb,0,none⟩))]) (Conv.mk kr) ?_
   obtain ⟨p1,hp1⟩ : ∃ q,q = l.getD i plz := ⟨_,rfl⟩
   have hp1o : PLok Rl p1 := by rw [hp1]; exact hP _ (getD_mem om)
   have hp1l := hp1o.l
   refine Cfg.begL rfl ?_
   refine CfgL.pure 2 [dZ,(0,false,some (.agg (plc p1).toArray))] (some [4,5,6,23,24,25,28]) (Γ' := [(28,[],.agg (plc p1).toArray),(25,[],.int .i64 (i : Int)),(24,[],.int .i64 (l.length : Int)),(23,[],.slice (some ⟨sa,offa,none⟩) l.length ca),(6,[],.slice (Own.a iO) ids.length (Own.c iO)),(5,[],.slice (Own.a tO) T.length (Own.c tO)),(4,[],.pointer (some ⟨mb,0,none⟩))]) (nd := (fun S => [(0 ≤ (i : Int) ∧ (i : Int) < (l.length : Int)),(∀ w1,S w1 → (loadVar 28 ⟨sa,(addO offa (i * 5)),none⟩).run Tryz.prog w1 = .ok (.agg (plc p1).toArray) w1)])) kr (fun _ => kr) ⟨om,(fun w1 h => load_list (vs := plc p1) Tryz.underlying28 rfl kr rfl (fun j v hj => by rw [addO_eq]; exact (cell_cells (h.ro _ hma)).trans (fl_cell (f := plc) (sz := 5) (l := l) plz (fun x _ => rfl) hca (i := i) om (by rw [← hp1]; exact hj)))),trivial⟩ ?_
   refine Le (Eff.alloc (z := (.agg (plc plz).toArray)) rfl kr) ?_
   rintro pb ⟨hpb,npb⟩
   refine Le (Eff.storeN (b := pb) (off := 0) (vs := (plc p1).toArray) (n := 5) rfl kr kr kr rfl (fun q hq => all_plc _ q hq) 0 (cs := (plc plz).toArray) (e := 28) kr (by rw [zero_pl]; decide)) ?_
   rintro ⟨⟩ -
   refine CfgL.setO (congrArg (fun (xq : Array Value) => (([(pb,.cells xq 28 (0,0)),(mb,.cells ((oc omM).toArray) 59 (0,0))] ++ (Own.o 62 (T.flatMap thc) tO ++ (Own.o 35 (ids.flatMap dgc) iO ++ (Tl ++ [])))) : List (Nat × Obj))) (show _ = ((plc p1).toArray) from spl_all (show (plc p1).toArray.size = (plc plz).toArray.size from rfl))) ?_
   refine CfgL.done rfl ?_
   refine Cg (Γ' := [(8,[],.pointer (some ⟨pb,0,none⟩)),(25,[],.int .i64 (i : Int)),(24,[],.int .i64 (l.length : Int)),(23,[],.slice (some ⟨sa,offa,none⟩) l.length ca),(6,[],.slice (Own.a iO) ids.length (Own.c iO)),(5,[],.slice (Own.a tO) T.length (Own.c tO)),(4,[],.pointer (some ⟨mb,0,none⟩))]) ?_
   refine Cfg.begL rfl ?_
   refine Le (Eff.alloc (z := (.agg (oc o0).toArray)) rfl kr) ?_
   rintro ob ⟨hob,nob⟩
   refine CfgL.done rfl ?_
   refine Rg [4,5,6,8,9,23,24,25,30] [dZ,(0,false,some (.bool p1.tag))] (fun S => [(∀ w1,S w1 → w1.cell? ⟨pb,0,none⟩ = some (.bool p1.tag))]) ⟨(fun w1 h => h.ocell 1 rfl rfl),trivial⟩ ?_
   refine Cfg.cond rfl (b := p1.tag) kr (fun c2r => ?_) (fun c2r => ?_)
   ·have c2 : (p1.tag = true) := c2r
    obtain ⟨sb,offb,csb,teb,freb,hab,hmb,hcb⟩ := own_inf (e := 35) hokI (by have := hL.pos; omega)
    refine Cg (Γ' := [(30,[],.bool p1.tag),(9,[],.pointer (some ⟨ob,0,none⟩)),(8,[],.pointer (some ⟨pb,0,none⟩)),(25,[],.int .i64 (i : Int)),(24,[],.int .i64 (l.length : Int)),(23,[],.slice (some ⟨sa,offa,none⟩) l.length ca),(6,[],.slice (Own.a iO) ids.length (Own.c iO)),(5,[],.slice (Own.a tO) T.length (Own.c tO)),(4,[],.pointer (some ⟨mb,0,none⟩))]) ?_
    refine Cfg.setG (congrArg (fun (xq : Value) => ([(30,[],.bool p1.tag),(9,[],.pointer (some ⟨ob,0,none⟩)),(8,[],.pointer (some ⟨pb,0,none⟩)),(25,[],.int .i64 (i : Int)),(24,[],.int .i64 (l.length : Int)),(23,[],.slice (some ⟨sa,offa,none⟩) l.length ca),(6,[],xq),(5,[],.slice (Own.a tO) T.length (Own.c tO)),(4,[],.pointer (some ⟨mb,0,none⟩))] : Env)) (show _ = .slice (some ⟨sb,offb,none⟩) ids.length (Own.c iO) from by rw [hab])) ?_
    have hidp := hL.pos
    have hq2 : p1.par.length % ids.length < ids.length := Nat.mod_lt _ hidp
    obtain ⟨d2,hd2⟩ : ∃ q,q = ids.getD (p1.par.length % ids.length) [] := ⟨_,rfl⟩
    have hd2m : d2 ∈ ids := by rw [hd2]; exact getD_mem hq2
    have hd2l : d2.length = 32 := hL.d _ hd2m
    refine Cfg.begA rfl kr ([(pb,.cells ((plc p1).toArray) 28 (0,0)),(mb,.cells ((oc omM).toArray) 59 (0,0))] ++ (Own.o 62 (T.flatMap thc) tO ++ (Own.o 35 (ids.flatMap dgc) iO ++ (Tl ++ [])))) ?_
    refine Ap [0,1,2,3,4,5,6,7,9,10] [dZ,dZ,(0,false,some (.slice p1.a p1.par.length p1.c)),dZ,dZ,dZ,dZ,dZ,dZ,(0,false,some (.string p1.t))] (some [4,5,6,8,9,23,24,25,38,41]) #[true,true,true,true,true,true,true,true,false,true,true,false,false,false] (.cons _ (.cons_cons _ (.cons_cons _ (List.Sublist.refl _)))) 4 (fun S => [(∀ w1,S w1 → w1.cell? ⟨pb,1,none⟩ = some (.slice p1.a p1.par.length p1.c)),(0 ≤ (p1.par.length : Int) ∧ 0 < (ids.length : Int)),(0 ≤ ((p1.par.length : Int) % (ids.length : Int)) ∧ ((p1.par.length : Int) % (ids.length : Int)) < (ids.length : Int)),(∀ w1,S w1 → w1.cell? ⟨pb,3,none⟩ = some (.string p1.t))]) ⟨(fun w1 h => h.ocell 0 rfl rfl),om,om,(fun w1 h => h.ocell 0 rfl rfl),trivial⟩ ?_
    refine Ae 8 rfl 3  (Eff.quiet (raw := false) (orc := some (.agg (bv d2))) (v := .agg (bv d2)) (nd := (fun S => [(∀ w1,S w1 → (loadVar 35 ⟨sb,(addO offb ((p1.par.length % ids.length) * 32)),none⟩).run Tryz.prog w1 = .ok (.agg (bv d2)) w1)])) (fun _ => kr) ⟨(fun w1 h => load_bytes Tryz.underlying35 rfl kr hd2l (fun j2 hj => by rw [addO_eq]; exact (cell_cells (h.own (sb,Obj.cells csb teb freb) (by simp [hmb]))).trans (fl_cell [] (fun x hx => dgc_len (hL.d x hx)) hcb (i := (p1.par.length % ids.length)) hq2 (by rw [← hd2]; exact dg_byte hd2l hj)))),trivial⟩ kr) (fun _ _ => (.cons _ (.cons_cons _ (.cons_cons _ (List.Sublist.refl _))))) ?_
    rintro ⟨⟩ -
    refine Ap [11,12] [(0,false,some (.agg (tc ⟨d2,p1.t⟩).toArray)),(0,false,some (.agg (oc (tagO d2 p1.t)).toArray))] (some [4,5,6,8,9,23,24,25,43]) #[true,true,true,true,true,true,true,true,true,true,true,true,true,false] (.cons _ (.cons_cons _ (.cons_cons _ (List.Sublist.refl _)))) 1 (fun S => [(∀ w1,S w1 → (Instr.build 57 #[(0,.agg (bv d2)),(1,.string p1.t)]).run Tryz.prog w1 = .ok (.agg (tc ⟨d2,p1.t⟩).toArray) w1),(∀ w1,S w1 → (Instr.build 59 #[(0,.int .u8 116),(3,.agg (tc ⟨d2,p1.t⟩).toArray)]).run Tryz.prog w1 = .ok (.agg (oc (tagO d2 p1.t)).toArray) w1)]) ⟨(fun w1 _ => build_tc hd2l p1.t w1),(fun w1 _ => build_ta hd2l p1.t w1),trivial⟩ ?_
    refine Ae 13 rfl 0  (Eff.storeN (b := ob) (off := 0) (vs := (oc (tagO d2 p1.t)).toArray) (n := 72) rfl kr kr kr (by rw [List.size_toArray,oc_len d0_len hd2l]) (fun q hq => all_oc _ q hq) 0 (cs := (oc o0).toArray) (e := 59) kr (by rw [zero_ob]; decide)) (fun _ _ => (.cons _ (.cons_cons _ (.cons_cons _ (List.Sublist.refl _))))) ?_
    rintro ⟨⟩ -
    refine CfgA.setO (congrArg (fun (xq : Array Value) => (([(ob,.cells xq 59 (0,0)),(pb,.cells ((plc p1).toArray) 28 (0,0)),(mb,.cells ((oc omM).toArray) 59 (0,0))] ++ (Own.o 62 (T.flatMap thc) tO ++ (Own.o 35 (ids.flatMap dgc) iO ++ (Tl ++ [])))) : List (Nat × Obj))) (show _ = ((oc (tagO d2 p1.t)).toArray) from spl_all (by first | (rw [List.size_toArray,oc_len d0_len hd2l]; rfl) | rw [List.size_toArray,oc_len d0_len hd2l]))) ?_
    refine CfgA.done kr ?_
    refine Cg (Γ' := [(9,[],.pointer (some ⟨ob,0,none⟩)),(8,[],.pointer (some ⟨pb,0,none⟩)),(25,[],.int .i64 (i : Int)),(24,[],.int .i64 (l.length : Int)),(23,[],.slice (some ⟨sa,offa,none⟩) l.length ca),(6,[],.slice (some ⟨sb,offb,none⟩) ids.length (Own.c iO)),(5,[],.slice (Own.a tO) T.length (Own.c tO)),(4,[],.pointer (some ⟨mb,0,none⟩))]) ?_
    refine Cg (Γ' := [(9,[],.pointer (some ⟨ob,0,none⟩)),(8,[],.pointer (some ⟨pb,0,none⟩)),(25,[],.int .i64 (i : Int)),(24,[],.int .i64 (l.length : Int)),(23,[],.slice (some ⟨sa,offa,none⟩) l.length ca),(6,[],.slice (some ⟨sb,offb,none⟩) ids.length (Own.c iO)),(5,[],.slice (Own.a tO) T.length (Own.c tO)),(4,[],.pointer (some ⟨mb,0,none⟩))]) ?_
    refine Cfg.setG (congrArg (fun (xq : Value) => ([(9,[],.pointer (some ⟨ob,0,none⟩)),(8,[],.pointer (some ⟨pb,0,none⟩)),(25,[],.int .i64 (i : Int)),(24,[],.int .i64 (l.length : Int)),(23,[],.slice (some ⟨sa,offa,none⟩) l.length ca),(6,[],xq),(5,[],.slice (Own.a tO) T.length (Own.c tO)),(4,[],.pointer (some ⟨mb,0,none⟩))] : Env)) (show _ = .slice (Own.a iO) ids.length (Own.c iO) from by rw [hab])) ?_
    refine Cfg.begL rfl ?_
    refine Lp 1 [(0,false,some (.agg (oc (tagO d2 p1.t)).toArray))] none (fun S => [(∀ w1,S w1 → (loadVar 59 ⟨ob,0,none⟩).run Tryz.prog w1 = .ok (.agg (oc (tagO d2 p1.t)).toArray) w1)]) ⟨(fun w1 h => load_list Tryz.underlying59 rfl kr (oc_len d0_len hd2l) (fun j v hj => h.ocell 0 rfl (by rw [List.getElem?_toArray]; exact (fun j v hj => by rw [Nat.zero_add]; exact hj) j v hj))),trivial⟩ ?_
    refine Le (Eff.callA (vs := [.agg (oc (tagO d2 p1.t)).toArray]) (.int .i64 (chk (tagO d2 p1.t))) rfl Tryz.func13 rfl rfl kr (fun w1 h => rChk (tagO d2 p1.t) [] w1 (tagO_in hd2l p1.t []) (fun e he => by cases he) (.inr rfl))) ?_
    rintro ⟨⟩ -
    refine Lp 1 [] (some [4,5,6,8,9,23,24,25,91]) n0 trivial ?_
    refine CfgL.done rfl ?_
    refine Cfg.cond rfl (b := ((chk (tagO d2 p1.t)) != (0 : Int))) kr (fun c3r => ?_) (fun c3r => ?_)
    ·have c3 := (bne_iff_ne.1 c3r)
     refine Rg [4,5,6,23,24,25] [] (fun _ => [((-9223372036854775808 : Int) ≤ ((i : Int) + 1) ∧ ((i : Int) + 1) ≤ 9223372036854775807)]) ⟨om,trivial⟩ ?_
     refine Cfg.again rfl (i + 1,T,ids,tO,iO,Tl) ⟨by omega,hL.skip,hokT,hokI⟩ (by show l.length - (i + 1) < l.length - i; omega) (Conv.mk kr) (.cons _ (.cons _ (.cons_cons _ (List.Sublist.refl _))))
    ·have c3 := (bne_eq_false_iff_eq.1 c3r)
     obtain ⟨dI,hdI⟩ : ∃ q,q = shaD (obS (tagO d2 p1.t)).data.toList := ⟨_,rfl⟩
     have hdIl : dI.length = 32 := by rw [hdI]; exact shaD_len _
     refine Cfg.begL rfl ?_
     refine Lp 1 [(0,false,some (.agg (oc (tagO d2 p1.t)).toArray))] (some [4,5,6,8,9,23,24,25,92]) (fun S => [(∀ w1,S w1 → (loadVar 59 ⟨ob,0,none⟩).run Tryz.prog w1 = .ok (.agg (oc (tagO d2 p1.t)).toArray) w1)]) ⟨(fun w1 h => load_list Tryz.underlying59 rfl kr (oc_len d0_len hd2l) (fun j v hj => h.ocell 0 rfl (by rw [List.getElem?_toArray]; exact (fun j v hj => by rw [Nat.zero_add]; exact hj) j v hj))),trivial⟩ ?_
     refine Le (Eff.callA (vs := [.agg (oc (tagO d2 p1.t)).toArray]) (.agg (bv dI)) rfl Tryz.func12 rfl rfl kr (fun w1 h => by rw [hdI]; exact rID (tagO d2 p1.t) [] w1 (tagO_in hd2l p1.t []) (fun e he => by cases he) (.inr rfl) (show 0 < 18446744073709551616 by decide))) ?_
     rintro ⟨⟩ -
     refine Le (Eff.alloc (z := (.agg (bv (List.replicate 32 0)))) rfl kr) ?_
     rintro vb ⟨hvb,nvb⟩
     refine Le (Eff.storeN (b := vb) (off := 0) (vs := (bv dI)) (n := 32) rfl kr kr kr ((bv_size _).trans hdIl) (all_bv _) 0 (cs := (bv (List.replicate 32 0))) (e := 35) kr (by rw [zdg_size]; omega)) ?_
     rintro ⟨⟩ -
     refine CfgL.setO (congrArg (fun (xq : Array Value) => (([(vb,.cells xq 35 (0,0)),(ob,.cells ((oc (tagO d2 p1.t)).toArray) 59 (0,0)),(pb,.cells ((plc p1).toArray) 28 (0,0)),(mb,.cells ((oc omM).toArray) 59 (0,0))] ++ (Own.o 62 (T.flatMap thc) tO ++ (Own.o 35 (ids.flatMap dgc) iO ++ (Tl ++ [])))) : List (Nat × Obj))) (show _ = (bv dI) from spl_all (((bv_size _).trans hdIl).trans zdg_size.symm))) ?_
     refine CfgL.done rfl ?_
     refine Cg (Γ' := [(13,[],.pointer (some ⟨vb,0,none⟩)),(9,[],.pointer (some ⟨ob,0,none⟩)),(8,[],.pointer (some ⟨pb,0,none⟩)),(25,[],.int .i64 (i : Int)),(24,[],.int .i64 (l.length : Int)),(23,[],.slice (some ⟨sa,offa,none⟩) l.length ca),(6,[],.slice (Own.a iO) ids.length (Own.c iO)),(5,[],.slice (Own.a tO) T.length (Own.c tO)),(4,[],.pointer (some ⟨mb,0,none⟩))]) ?_
     refine Cfg.begL rfl ?_
     refine Lp 2 [dZ,(0,false,some (.agg (bv dI)))] none (fun S => [(∀ w1,S w1 → (loadVar 35 ⟨vb,0,none⟩).run Tryz.prog w1 = .ok (.agg (bv dI)) w1)]) ⟨(fun w1 h => h.oload 0 rfl Tryz.underlying35 rfl (n := 32) kr ((bv_size _).trans hdIl)),trivial⟩ ?_
     refine Le (Eff.buildAgg (vs := (bv dI)) (n := 32) rfl kr Tryz.underlying31 kr (z := (.agg (bv (List.replicate 32 0)))) kr ((bv_size _).trans hdIl) (by decide) (by decide)) ?_
     rintro kb ⟨hkb,nkb⟩
     refine Le (Eff.appendF rfl 32 32 Tryz.underlying31 kr (z := (.agg (bv (List.replicate 32 0)))) kr kr iO (xs := (ids.flatMap dgc)) hokI kr (b2 := kb) (off2 := 0) (m := 1) (c2 := 1) kr (dgc dI) (dgc_len hdIl) (all_dgc _) ([(kb,.cells (bv dI) 35 (0,0)),(vb,.cells (bv dI) 35 (0,0)),(ob,.cells ((oc (tagO d2 p1.t)).toArray) 59 (0,0)),(pb,.cells ((plc p1).toArray) 28 (0,0)),(mb,.cells ((oc omM).toArray) 59 (0,0))] ++ Own.o 62 (T.flatMap thc) tO) ([] ++ (Tl ++ [])) (by rfl) (fun w1 h j v hj => by rw [Nat.zero_add]; exact h.ocell 0 rfl (by rw [← Array.getElem?_toList]; exact hj)) (by have := hL.len; have := hL.tl; omega) (by have := hL.len; have := hL.tl; omega)) ?_
     rintro o5 ko5
     refine Lp 1 [] (some [4,5,6,8,9,13,23,24,25]) n0 trivial ?_
     refine CfgL.done rfl ?_
     refine Rg [4,5,6,9,13,23,24,25,100] [dZ,(0,false,some (.bool p1.lost))] (fun S => [(∀ w1,S w1 → w1.cell? ⟨pb,4,none⟩ = some (.bool p1.lost))]) ⟨(fun w1 h => h.ocell 3 rfl rfl),trivial⟩ ?_
     refine Cfg.condT rfl (b := (!p1.lost)) kr (by rw [hp1o.lost]; rfl) ?_
     refine Cfg.begL rfl ?_
     refine Lp 4 [dZ,(0,false,some (.agg (bv dI))),(0,false,some (.agg (oc (tagO d2 p1.t)).toArray)),(0,false,some (.agg (thc ⟨dI,(tagO d2 p1.t)⟩).toArray))] (some [4,5,6,23,24,25,101,104]) (fun S => [(∀ w1,S w1 → (loadVar 35 ⟨vb,0,none⟩).run Tryz.prog w1 = .ok (.agg (bv dI)) w1),(∀ w1,S w1 → (loadVar 59 ⟨ob,0,none⟩).run Tryz.prog w1 = .ok (.agg (oc (tagO d2 p1.t)).toArray) w1),(∀ w1,S w1 → (Instr.build 62 #[(0,.agg (bv dI)),(1,.agg (oc (tagO d2 p1.t)).toArray)]).run Tryz.prog w1 = .ok (.agg (thc ⟨dI,(tagO d2 p1.t)⟩).toArray) w1)]) ⟨(fun w1 h => h.oload 1 rfl Tryz.underlying35 rfl (n := 32) kr ((bv_size _).trans hdIl)),(fun w1 h => load_list Tryz.underlying59 rfl kr (oc_len d0_len hd2l) (fun j v hj => h.ocell 2 rfl (by rw [List.getElem?_toArray]; exact (fun j v hj => by rw [Nat.zero_add]; exact hj) j v hj))),(fun w1 _ => build_th hdIl d0_len hd2l w1),trivial⟩ ?_
     refine Le (Eff.buildAgg (vs := (thc ⟨dI,(tagO d2 p1.t)⟩).toArray) (n := 104) rfl kr Tryz.underlying30 kr (z := (.agg (thc tz).toArray)) kr (by rw [List.size_toArray]; unfold thc; rw [List.length_append,dgc_len hdIl,oc_len d0_len hd2l]) (by decide) (by decide)) ?_
     rintro hb ⟨hhb,nhb⟩
     refine Le (Eff.appendF rfl 104 240 Tryz.underlying30 kr (z := (.agg (thc tz).toArray)) kr kr tO (xs := (T.flatMap thc)) hokT kr (b2 := hb) (off2 := 0) (m := 1) (c2 := 1) kr (thc ⟨dI,(tagO d2 p1.t)⟩) (by unfold thc; rw [List.length_append,dgc_len hdIl,oc_len d0_len hd2l]) (all_thc _) [(hb,.cells ((thc ⟨dI,(tagO d2 p1.t)⟩).toArray) 62 (0,0)),(kb,.cells (bv dI) 35 (0,0)),(vb,.cells (bv dI) 35 (0,0)),(ob,.cells ((oc (tagO d2 p1.t)).toArray) 59 (0,0)),(pb,.cells ((plc p1).toArray) 28 (0,0)),(mb,.cells ((oc omM).toArray) 59 (0,0))] ([] ++ (Own.o 35 ((ids.flatMap dgc) ++ (dgc dI)) o5 ++ (Tl ++ []))) (by rfl) (fun w1 h j v hj => by rw [Nat.zero_add]; exact h.ocell 0 rfl (by rw [List.getElem?_toArray]; exact hj)) (by have := hL.len; have := hL.tl; omega) (by have := hL.len; have := hL.tl; omega)) ?_
     rintro o6 ko6
     refine Lp 1 [] (some [4,5,6,23,24,25]) n0 trivial ?_
     refine CfgL.done rfl ?_
     refine Rg [4,5,6,23,24,25] [] (fun _ => [((-9223372036854775808 : Int) ≤ ((i : Int) + 1) ∧ ((i : Int) + 1) ≤ 9223372036854775807)]) ⟨om,trivial⟩ ?_
     refine Cfg.setO (congrArg (fun (xq : List Value) => (([(hb,.cells ((thc ⟨dI,(tagO d2 p1.t)⟩).toArray) 62 (0,0)),(kb,.cells (bv dI) 35 (0,0)),(vb,.cells (bv dI) 35 (0,0)),(ob,.cells ((oc (tagO d2 p1.t)).toArray) 59 (0,0)),(pb,.cells ((plc p1).toArray) 28 (0,0)),(mb,.cells ((oc omM).toArray) 59 (0,0))] ++ (Own.o 62 xq o6 ++ (Own.o 35 ((ids.flatMap dgc) ++ (dgc dI)) o5 ++ (Tl ++ [])))) : List (Nat × Obj))) (show _ = ((T ++ [(⟨dI,(tagO d2 p1.t)⟩ : Th)]).flatMap thc) from by rw [List.flatMap_append,List.flatMap_singleton])) ?_
     refine Cfg.setO (congrArg (fun (xq : List Value) => (([(hb,.cells ((thc ⟨dI,(tagO d2 p1.t)⟩).toArray) 62 (0,0)),(kb,.cells (bv dI) 35 (0,0)),(vb,.cells (bv dI) 35 (0,0)),(ob,.cells ((oc (tagO d2 p1.t)).toArray) 59 (0,0)),(pb,.cells ((plc p1).toArray) 28 (0,0)),(mb,.cells ((oc omM).toArray) 59 (0,0))] ++ (Own.o 62 ((T ++ [(⟨dI,(tagO d2 p1.t)⟩ : Th)]).flatMap thc) o6 ++ (Own.o 35 xq o5 ++ (Tl ++ [])))) : List (Nat × Obj))) (show _ = ((ids ++ [dI]).flatMap dgc) from by rw [List.flatMap_append,List.flatMap_singleton])) ?_
     refine Cg (Γ' := [(25,[],.int .i64 ((i : Int) + 1)),(5,[],.slice (Own.a o6) ((T.length + 1)) (Own.c o6)),(6,[],.slice (Own.a o5) ((ids.length + 1)) (Own.c o5)),(24,[],.int .i64 (l.length : Int)),(23,[],.slice (some ⟨sa,offa,none⟩) l.length ca),(4,[],.pointer (some ⟨mb,0,none⟩))]) ?_
     refine Cfg.setG (congrArg (fun (xq : Nat) => ([(25,[],.int .i64 ((i : Int) + 1)),(5,[],.slice (Own.a o6) xq (Own.c o6)),(6,[],.slice (Own.a o5) ((ids.length + 1)) (Own.c o5)),(24,[],.int .i64 (l.length : Int)),(23,[],.slice (some ⟨sa,offa,none⟩) l.length ca),(4,[],.pointer (some ⟨mb,0,none⟩))] : Env)) (show _ = ((T ++ [(⟨dI,(tagO d2 p1.t)⟩ : Th)]).length) from by rw [List.length_append]; rfl)) ?_
     refine Cg (Γ' := [(25,[],.int .i64 ((i : Int) + 1)),(5,[],.slice (Own.a o6) ((T ++ [(⟨dI,(tagO d2 p1.t)⟩ : Th)]).length) (Own.c o6)),(6,[],.slice (Own.a o5) ((ids.length + 1)) (Own.c o5)),(24,[],.int .i64 (l.length : Int)),(23,[],.slice (some ⟨sa,offa,none⟩) l.length ca),(4,[],.pointer (some ⟨mb,0,none⟩))]) ?_
     refine Cfg.setG (congrArg (fun (xq : Nat) => ([(25,[],.int .i64 ((i : Int) + 1)),(5,[],.slice (Own.a o6) ((T ++ [(⟨dI,(tagO d2 p1.t)⟩ : Th)]).length) (Own.c o6)),(6,[],.slice (Own.a o5) xq (Own.c o5)),(24,[],.int .i64 (l.length : Int)),(23,[],.slice (some ⟨sa,offa,none⟩) l.length ca),(4,[],.pointer (some ⟨mb,0,none⟩))] : Env)) (show _ = ((ids ++ [dI]).length) from by rw [List.length_append]; rfl)) ?_
     refine Cfg.again rfl (i + 1,(T ++ [(⟨dI,(tagO d2 p1.t)⟩ : Th)]),(ids ++ [dI]),o6,o5,Tl) ⟨by omega,hL.add (W := []) hdIl (tagO_in hd2l p1.t _) (by rw [tagO_lk]; intro d hd; rw [List.mem_singleton.1 hd]; exact hd2m) (by rw [tagO_lk]; exact Nat.le_succ_of_le (Nat.le_succ _)),by rw [List.flatMap_append,List.flatMap_singleton,List.length_append]; exact ko6,by rw [List.flatMap_append,List.flatMap_singleton,List.length_append]; exact ko5⟩ (by show l.length - (i + 1) < l.length - i; omega) (Conv.mk kr) (.cons _ (.cons _ (.cons _ (.cons _ (.cons _ (.cons_cons _ (List.Sublist.refl _)))))))
   ·have c2 : (p1.tag = false) := c2r
    refine Cfg.begA rfl kr ([(pb,.cells ((plc p1).toArray) 28 (0,0)),(mb,.cells ((oc omM).toArray) 59 (0,0))] ++ (Own.o 62 (T.flatMap thc) tO ++ (Own.o 35 (ids.flatMap dgc) iO ++ (Tl ++ [])))) ?_
    refine Ap [0,2,3,4,5] [(0,false,some (.agg (oc omM).toArray)),dZ,(0,false,some (.int .u64 (p1.n : Int))),dZ,(0,false,some (.string p1.t))] (some [4,5,6,8,9,23,24,25,44,47,49]) #[true,false,true,true,true,true,false,false,false] (.cons _ (.cons_cons _ (.cons_cons _ (List.Sublist.refl _)))) 4 (fun S => [(∀ w1,S w1 → (loadVar 59 ⟨mb,0,none⟩).run Tryz.prog w1 = .ok (.agg (oc omM).toArray) w1),(∀ w1,S w1 → w1.cell? ⟨pb,2,none⟩ = some (.int .u64 (p1.n : Int))),(∀ w1,S w1 → w1.cell? ⟨pb,3,none⟩ = some (.string p1.t))]) ⟨(fun w1 h => load_list Tryz.underlying59 rfl kr (oc_len d0_len d0_len) (fun j v hj => h.ocell 1 rfl (by rw [List.getElem?_toArray]; exact (fun j v hj => by rw [Nat.zero_add]; exact hj) j v hj))),(fun w1 h => h.ocell 0 rfl rfl),(fun w1 h => h.ocell 0 rfl rfl),trivial⟩ ?_
    refine Ae 1 rfl 3  (Eff.callA (vs := [.agg (oc omM).toArray]) (.agg (bv mD)) rfl Tryz.func12 rfl rfl kr (fun w1 _ => rIDm w1)) (fun _ _ => (.cons _ (.cons_cons _ (.cons_cons _ (List.Sublist.refl _))))) ?_
    rintro ⟨⟩ -
    refine Ap [6,7] [(0,false,some (.agg (cc ⟨mD,none,0,[],p1.n,p1.t⟩).toArray)),(0,false,some (.agg (oc (comO mD none [] p1.n p1.t)).toArray))] (some [4,5,6,8,9,23,24,25,51]) #[true,true,true,true,true,true,true,true,false] (.cons _ (.cons_cons _ (.cons_cons _ (List.Sublist.refl _)))) 1 (fun S => [(∀ w1,S w1 → (Instr.build 46 #[(0,.agg (bv mD)),(2,.int .u64 (p1.n : Int)),(3,.string p1.t)]).run Tryz.prog w1 = .ok (.agg (cc ⟨mD,none,0,[],p1.n,p1.t⟩).toArray) w1),(∀ w1,S w1 → (Instr.build 59 #[(0,.int .u8 99),(2,.agg (cc ⟨mD,none,0,[],p1.n,p1.t⟩).toArray)]).run Tryz.prog w1 = .ok (.agg (oc (comO mD none [] p1.n p1.t)).toArray) w1)]) ⟨(fun w1 _ => build_cc mD_len p1.n p1.t w1),(fun w1 _ => build_co mD_len p1.n p1.t w1),trivial⟩ ?_
    refine Ae 8 rfl 0  (Eff.storeN (b := ob) (off := 0) (vs := (oc (comO mD none [] p1.n p1.t)).toArray) (n := 72) rfl kr kr kr (by rw [List.size_toArray,oc_len mD_len d0_len]) (fun q hq => all_oc _ q hq) 0 (cs := (oc o0).toArray) (e := 59) kr (by rw [zero_ob]; decide)) (fun _ _ => (.cons _ (.cons_cons _ (.cons_cons _ (List.Sublist.refl _))))) ?_
    rintro ⟨⟩ -
    refine CfgA.setO (congrArg (fun (xq : Array Value) => (([(ob,.cells xq 59 (0,0)),(pb,.cells ((plc p1).toArray) 28 (0,0)),(mb,.cells ((oc omM).toArray) 59 (0,0))] ++ (Own.o 62 (T.flatMap thc) tO ++ (Own.o 35 (ids.flatMap dgc) iO ++ (Tl ++ [])))) : List (Nat × Obj))) (show _ = ((oc (comO mD none [] p1.n p1.t)).toArray) from spl_all (by first | (rw [List.size_toArray,oc_len mD_len d0_len]; rfl) | rw [List.size_toArray,oc_len mD_len d0_len]))) ?_
    refine CfgA.done kr ?_
    refine Cg (Γ' := [(9,[],.pointer (some ⟨ob,0,none⟩)),(8,[],.pointer (some ⟨pb,0,none⟩)),(25,[],.int .i64 (i : Int)),(24,[],.int .i64 (l.length : Int)),(23,[],.slice (some ⟨sa,offa,none⟩) l.length ca),(6,[],.slice (Own.a iO) ids.length (Own.c iO)),(5,[],.slice (Own.a tO) T.length (Own.c tO)),(4,[],.pointer (some ⟨mb,0,none⟩))]) ?_
    refine Rg [4,5,6,8,9,23,24,25,53,54,55] [dZ,(0,false,some (.slice p1.a p1.par.length p1.c))] (fun S => [(∀ w1,S w1 → w1.cell? ⟨pb,1,none⟩ = some (.slice p1.a p1.par.length p1.c))]) ⟨(fun w1 h => h.ocell 1 rfl rfl),trivial⟩ ?_
    refine Cfg.loop rfl (ι := Nat × List (List UInt8) × K.Own) (fun (xz : Nat × List (List UInt8) × K.Own) => match xz with | (j,ps,ow) => [(55,[],.int .i64 (j : Int)),(54,[],.int .i64 (p1.par.length : Int)),(53,[],.slice p1.a p1.par.length p1.c),(9,[],.pointer (some ⟨ob,0,none⟩)),(8,[],.pointer (some ⟨pb,0,none⟩)),(25,[],.int .i64 (i : Int)),(24,[],.int .i64 (l.length : Int)),(23,[],.slice (some ⟨sa,offa,none⟩) l.length ca),(6,[],.slice (Own.a iO) ids.length (Own.c iO)),(5,[],.slice (Own.a tO) T.length (Own.c tO)),(4,[],.pointer (some ⟨mb,0,none⟩))]) (fun (xz : Nat × List (List UInt8) × K.Own) => match xz with | (j,ps,ow) => ([(ob,.cells ((oc (comO mD ow ps p1.n p1.t)).toArray) 59 (0,0)),(pb,.cells ((plc p1).toArray) 28 (0,0)),(mb,.cells ((oc omM).toArray) 59 (0,0))] ++ (Own.o 35 (ps.flatMap dgc) ow ++ (Own.o 62 (T.flatMap thc) tO ++ (Own.o 35 (ids.flatMap dgc) iO ++ (Tl ++ [])))))) (fun (xz : Nat × List (List UInt8) × K.Own) => match xz with | (j,ps,ow) => (j ≤ p1.par.length) ∧ (OwnOk ow 32 ps.length (ps.flatMap dgc)) ∧ (D32 ps) ∧ (∀ d ∈ ps,d ∈ ids) ∧ (ps.length ≤ 2)) (fun (xz : Nat × List (List UInt8) × K.Own) => match xz with | (j,ps,ow) => p1.par.length - j) (0,[],none) ?_ (Conv.mk kr) (List.Sublist.refl _) ?_
    ·exact ⟨Nat.zero_le _,OwnOk.none 32,(fun d h => by cases h),(fun d h => by cases h),Nat.zero_le _⟩
    ·rintro ⟨j,ps,ow⟩ ⟨hj,hokP,hps,hpi,hpl⟩
     refine Rg [4,5,6,8,9,23,24,25,53,54,55,56] [] n0 trivial ?_
     refine Cfg.cond rfl (b := (decide ((j : Int) < (p1.par.length : Int)))) kr (fun c5r => ?_) (fun c5r => ?_)
     ·have c5 := (of_decide_eq_true c5r)
      obtain ⟨sc,offc,csc,tec,frec,hac,hmc,hcc⟩ := hp1o.i om
      refine Cg (Γ' := [(56,[],.bool (decide ((j : Int) < (p1.par.length : Int)))),(55,[],.int .i64 (j : Int)),(54,[],.int .i64 (p1.par.length : Int)),(53,[],.slice p1.a p1.par.length p1.c),(9,[],.pointer (some ⟨ob,0,none⟩)),(8,[],.pointer (some ⟨pb,0,none⟩)),(25,[],.int .i64 (i : Int)),(24,[],.int .i64 (l.length : Int)),(23,[],.slice (some ⟨sa,offa,none⟩) l.length ca),(6,[],.slice (Own.a iO) ids.length (Own.c iO)),(5,[],.slice (Own.a tO) T.length (Own.c tO)),(4,[],.pointer (some ⟨mb,0,none⟩))]) ?_
      refine Cfg.setG (congrArg (fun (xq : Value) => ([(56,[],.bool (decide ((j : Int) < (p1.par.length : Int)))),(55,[],.int .i64 (j : Int)),(54,[],.int .i64 (p1.par.length : Int)),(53,[],xq),(9,[],.pointer (some ⟨ob,0,none⟩)),(8,[],.pointer (some ⟨pb,0,none⟩)),(25,[],.int .i64 (i : Int)),(24,[],.int .i64 (l.length : Int)),(23,[],.slice (some ⟨sa,offa,none⟩) l.length ca),(6,[],.slice (Own.a iO) ids.length (Own.c iO)),(5,[],.slice (Own.a tO) T.length (Own.c tO)),(4,[],.pointer (some ⟨mb,0,none⟩))] : Env)) (show _ = .slice (some ⟨sc,offc,none⟩) p1.par.length p1.c from by rw [hac])) ?_
      have hpb : p1.par.getD j 0 < 256 := hp1o.b _ (getD_mem om)
      refine Rg [4,5,6,8,9,11,23,24,25,53,54,55] [dZ,(0,false,some (.int .u8 ((p1.par.getD j 0) : Int)))] (fun S => [(0 ≤ (j : Int) ∧ (j : Int) < (p1.par.length : Int)),(∀ w1,S w1 → w1.cell? ⟨sc,(addO offc j),none⟩ = some (.int .u8 ((p1.par.getD j 0) : Int)))]) ⟨om,(fun w1 h => by rw [addO_eq]; exact (cell_cells (h.ro _ hmc)).trans (fl_one (g := fun n : Nat => .int .u8 (n : Int)) (l := p1.par) 0 hcc om)),trivial⟩ ?_
      obtain ⟨sb,offb,csb,teb,freb,hab,hmb,hcb⟩ := own_inf (e := 35) hokI (by have := hL.pos; omega)
      refine Cg (Γ' := [(11,[],.int .u8 ((p1.par.getD j 0) : Int)),(55,[],.int .i64 (j : Int)),(54,[],.int .i64 (p1.par.length : Int)),(53,[],.slice (some ⟨sc,offc,none⟩) p1.par.length p1.c),(9,[],.pointer (some ⟨ob,0,none⟩)),(8,[],.pointer (some ⟨pb,0,none⟩)),(25,[],.int .i64 (i : Int)),(24,[],.int .i64 (l.length : Int)),(23,[],.slice (some ⟨sa,offa,none⟩) l.length ca),(6,[],.slice (Own.a iO) ids.length (Own.c iO)),(5,[],.slice (Own.a tO) T.length (Own.c tO)),(4,[],.pointer (some ⟨mb,0,none⟩))]) ?_
      refine Cfg.setG (congrArg (fun (xq : Value) => ([(11,[],.int .u8 ((p1.par.getD j 0) : Int)),(55,[],.int .i64 (j : Int)),(54,[],.int .i64 (p1.par.length : Int)),(53,[],.slice (some ⟨sc,offc,none⟩) p1.par.length p1.c),(9,[],.pointer (some ⟨ob,0,none⟩)),(8,[],.pointer (some ⟨pb,0,none⟩)),(25,[],.int .i64 (i : Int)),(24,[],.int .i64 (l.length : Int)),(23,[],.slice (some ⟨sa,offa,none⟩) l.length ca),(6,[],xq),(5,[],.slice (Own.a tO) T.length (Own.c tO)),(4,[],.pointer (some ⟨mb,0,none⟩))] : Env)) (show _ = .slice (some ⟨sb,offb,none⟩) ids.length (Own.c iO) from by rw [hab])) ?_
      have hidp := hL.pos
      have hq2 : p1.par.getD j 0 % ids.length < ids.length := Nat.mod_lt _ hidp
      obtain ⟨d2,hd2⟩ : ∃ q,q = ids.getD (p1.par.getD j 0 % ids.length) [] := ⟨_,rfl⟩
      have hd2m : d2 ∈ ids := by rw [hd2]; exact getD_mem hq2
      have hd2l : d2.length = 32 := hL.d _ hd2m
      refine Cfg.begL rfl ?_
      refine Lp 8 [dZ,dZ,dZ,dZ,dZ,dZ,dZ,(0,false,some (.agg (bv d2)))] (some [4,5,6,8,9,23,24,25,53,54,55,66]) (fun S => [((-9223372036854775808 : Int) ≤ ((p1.par.getD j 0) : Int) ∧ ((p1.par.getD j 0) : Int) ≤ 9223372036854775807),(0 ≤ ((p1.par.getD j 0) : Int) ∧ 0 < (ids.length : Int)),(0 ≤ (((p1.par.getD j 0) : Int) % (ids.length : Int)) ∧ (((p1.par.getD j 0) : Int) % (ids.length : Int)) < (ids.length : Int)),(∀ w1,S w1 → (loadVar 35 ⟨sb,(addO offb ((((p1.par.getD j 0)) % ids.length) * 32)),none⟩).run Tryz.prog w1 = .ok (.agg (bv d2)) w1)]) ⟨om,om,om,(fun w1 h => load_bytes Tryz.underlying35 rfl kr hd2l (fun j2 hj => by rw [addO_eq]; exact (cell_cells (h.own (sb,Obj.cells csb teb freb) (by simp [hmb]))).trans (fl_cell [] (fun x hx => dgc_len (hL.d x hx)) hcb (i := (p1.par.getD j 0 % ids.length)) hq2 (by rw [← hd2]; exact dg_byte hd2l hj)))),trivial⟩ ?_
      refine Le (Eff.alloc (z := (.agg (bv (List.replicate 32 0)))) rfl kr) ?_
      rintro ub ⟨hub,nub⟩
      refine Le (Eff.storeN (b := ub) (off := 0) (vs := (bv d2)) (n := 32) rfl kr kr kr ((bv_size _).trans hd2l) (all_bv _) 0 (cs := (bv (List.replicate 32 0))) (e := 35) kr (by rw [zdg_size]; omega)) ?_
      rintro ⟨⟩ -
      refine CfgL.setO (congrArg (fun (xq : Array Value) => (([(ub,.cells xq 35 (0,0)),(ob,.cells ((oc (comO mD ow ps p1.n p1.t)).toArray) 59 (0,0)),(pb,.cells ((plc p1).toArray) 28 (0,0)),(mb,.cells ((oc omM).toArray) 59 (0,0))] ++ (Own.o 35 (ps.flatMap dgc) ow ++ (Own.o 62 (T.flatMap thc) tO ++ (Own.o 35 (ids.flatMap dgc) iO ++ (Tl ++ []))))) : List (Nat × Obj))) (show _ = (bv d2) from spl_all (((bv_size _).trans hd2l).trans zdg_size.symm))) ?_
      refine CfgL.done rfl ?_
      refine Cg (Γ' := [(12,[],.pointer (some ⟨ub,0,none⟩)),(55,[],.int .i64 (j : Int)),(54,[],.int .i64 (p1.par.length : Int)),(53,[],.slice (some ⟨sc,offc,none⟩) p1.par.length p1.c),(9,[],.pointer (some ⟨ob,0,none⟩)),(8,[],.pointer (some ⟨pb,0,none⟩)),(25,[],.int .i64 (i : Int)),(24,[],.int .i64 (l.length : Int)),(23,[],.slice (some ⟨sa,offa,none⟩) l.length ca),(6,[],.slice (some ⟨sb,offb,none⟩) ids.length (Own.c iO)),(5,[],.slice (Own.a tO) T.length (Own.c tO)),(4,[],.pointer (some ⟨mb,0,none⟩))]) ?_
      refine Cg (Γ' := [(12,[],.pointer (some ⟨ub,0,none⟩)),(55,[],.int .i64 (j : Int)),(54,[],.int .i64 (p1.par.length : Int)),(53,[],.slice (some ⟨sc,offc,none⟩) p1.par.length p1.c),(9,[],.pointer (some ⟨ob,0,none⟩)),(8,[],.pointer (some ⟨pb,0,none⟩)),(25,[],.int .i64 (i : Int)),(24,[],.int .i64 (l.length : Int)),(23,[],.slice (some ⟨sa,offa,none⟩) l.length ca),(6,[],.slice (some ⟨sb,offb,none⟩) ids.length (Own.c iO)),(5,[],.slice (Own.a tO) T.length (Own.c tO)),(4,[],.pointer (some ⟨mb,0,none⟩))]) ?_
      refine Cfg.setG (congrArg (fun (xq : Value) => ([(12,[],.pointer (some ⟨ub,0,none⟩)),(55,[],.int .i64 (j : Int)),(54,[],.int .i64 (p1.par.length : Int)),(53,[],.slice (some ⟨sc,offc,none⟩) p1.par.length p1.c),(9,[],.pointer (some ⟨ob,0,none⟩)),(8,[],.pointer (some ⟨pb,0,none⟩)),(25,[],.int .i64 (i : Int)),(24,[],.int .i64 (l.length : Int)),(23,[],.slice (some ⟨sa,offa,none⟩) l.length ca),(6,[],xq),(5,[],.slice (Own.a tO) T.length (Own.c tO)),(4,[],.pointer (some ⟨mb,0,none⟩))] : Env)) (show _ = .slice (Own.a iO) ids.length (Own.c iO) from by rw [hab])) ?_
      refine Cfg.begL rfl ?_
      refine Lp 6 [dZ,dZ,(0,false,some (.slice (Own.a ow) ps.length (Own.c ow)))] (some [4,5,6,8,9,12,23,24,25,53,54,55,72]) (fun S => [(∀ w1,S w1 → w1.cell? ⟨ob,36,none⟩ = some (.slice (Own.a ow) ps.length (Own.c ow)))]) ⟨(fun w1 h => h.ocell 1 rfl (by rw [List.getElem?_toArray]; exact oc_com (j := 32) (cc_p mD_len))),trivial⟩ ?_
      by_cases c6 : (decide ((ps.length : Int) < (2 : Int))) = true
      ·have c6k : (decide ((ps.length : Int) < (2 : Int))) = true := c6
       have c6q := (of_decide_eq_true c6k)
       refine CfgL.known 72 (b := (decide ((ps.length : Int) < (2 : Int)))) kr true c6k ?_
       refine Lp 4 [(1,false,none),(1,false,none),(1,false,some (.slice (Own.a ow) ps.length (Own.c ow))),(1,false,some (.agg (bv d2)))] (some [4,5,6,8,9,12,23,24,25,53,54,55,72,75,76]) (fun S => [((.bool true : Value) = .bool true),((.bool true : Value) = .bool true),((.bool true : Value) = .bool true),(∀ w1,S w1 → w1.cell? ⟨ob,36,none⟩ = some (.slice (Own.a ow) ps.length (Own.c ow))),((.bool true : Value) = .bool true),(∀ w1,S w1 → (loadVar 35 ⟨ub,0,none⟩).run Tryz.prog w1 = .ok (.agg (bv d2)) w1)]) ⟨rfl,rfl,rfl,(fun w1 h => h.ocell 1 rfl (by rw [List.getElem?_toArray]; exact oc_com (j := 32) (cc_p mD_len))),rfl,(fun w1 h => h.oload 0 rfl Tryz.underlying35 rfl (n := 32) kr ((bv_size _).trans hd2l)),trivial⟩ ?_
       refine Le (Eff.callA (vs := [.slice (Own.a ow) ps.length (Own.c ow),.agg (bv d2)]) (.bool (decide (d2 ∈ ps))) rfl Tryz.func9 rfl rfl kr (fun w1 h => dContains (Own.a ow) (Own.c ow) ps d2 (Own.o 35 (ps.flatMap dgc) ow) w1 (own_inf hokP) hps hd2l (h.has (fun e he => by simp [he])) (by unfold maxLen; omega))) ?_
       rintro ⟨⟩ -
       refine Lp 2 [(1,false,none)] (some [4,5,6,8,9,12,23,24,25,53,54,55,79]) (fun _ => [((.bool true : Value) = .bool true)]) ⟨rfl,trivial⟩ ?_
       refine CfgL.done rfl ?_
       refine Cfg.cond rfl (b := (!(decide (d2 ∈ ps)))) kr (fun c7r => ?_) (fun c7r => ?_)
       ·have c7 : ((decide (d2 ∈ ps)) = false) := (notT c7r)
        refine Cfg.begL rfl ?_
        refine Lp 4 [dZ,dZ,(0,false,some (.slice (Own.a ow) ps.length (Own.c ow))),(0,false,some (.agg (bv d2)))] (some [4,5,6,8,9,23,24,25,53,54,55,82,83]) (fun S => [(∀ w1,S w1 → w1.cell? ⟨ob,36,none⟩ = some (.slice (Own.a ow) ps.length (Own.c ow))),(∀ w1,S w1 → (loadVar 35 ⟨ub,0,none⟩).run Tryz.prog w1 = .ok (.agg (bv d2)) w1)]) ⟨(fun w1 h => h.ocell 1 rfl (by rw [List.getElem?_toArray]; exact oc_com (j := 32) (cc_p mD_len))),(fun w1 h => h.oload 0 rfl Tryz.underlying35 rfl (n := 32) kr ((bv_size _).trans hd2l)),trivial⟩ ?_
        refine Le (Eff.buildAgg (vs := (bv d2)) (n := 32) rfl kr Tryz.underlying31 kr (z := (.agg (bv (List.replicate 32 0)))) kr ((bv_size _).trans hd2l) (by decide) (by decide)) ?_
        rintro lb ⟨hlb,nlb⟩
        refine Le (Eff.appendF rfl 32 32 Tryz.underlying31 kr (z := (.agg (bv (List.replicate 32 0)))) kr kr ow (xs := (ps.flatMap dgc)) hokP kr (b2 := lb) (off2 := 0) (m := 1) (c2 := 1) kr (dgc d2) (dgc_len hd2l) (all_dgc _) [(lb,.cells (bv d2) 35 (0,0)),(ub,.cells (bv d2) 35 (0,0)),(ob,.cells ((oc (comO mD ow ps p1.n p1.t)).toArray) 59 (0,0)),(pb,.cells ((plc p1).toArray) 28 (0,0)),(mb,.cells ((oc omM).toArray) 59 (0,0))] ([] ++ (Own.o 62 (T.flatMap thc) tO ++ (Own.o 35 (ids.flatMap dgc) iO ++ (Tl ++ [])))) (by rfl) (fun w1 h j v hj => by rw [Nat.zero_add]; exact h.ocell 0 rfl (by rw [← Array.getElem?_toList]; exact hj)) (by have := hL.len; have := hL.tl; omega) (by have := hL.len; have := hL.tl; omega)) ?_
        rintro o9 ko9
        refine Lp 2 [] (some [4,5,6,8,9,23,24,25,53,54,55,85,87]) n0 trivial ?_
        refine Le (Eff.store1 (b := ob) (off := 36) (v := .slice (Own.a o9) ((ps.length + 1)) (Own.c o9)) rfl kr kr rfl kr 2 (cs := (oc (comO mD ow ps p1.n p1.t)).toArray) (e := 59) kr (by rw [List.size_toArray,oc_len mD_len d0_len]; decide)) ?_
        rintro ⟨⟩ -
        refine CfgL.done rfl ?_
        refine Cg (Γ' := [(55,[],.int .i64 (j : Int)),(54,[],.int .i64 (p1.par.length : Int)),(53,[],.slice (some ⟨sc,offc,none⟩) p1.par.length p1.c),(9,[],.pointer (some ⟨ob,0,none⟩)),(8,[],.pointer (some ⟨pb,0,none⟩)),(25,[],.int .i64 (i : Int)),(24,[],.int .i64 (l.length : Int)),(23,[],.slice (some ⟨sa,offa,none⟩) l.length ca),(6,[],.slice (Own.a iO) ids.length (Own.c iO)),(5,[],.slice (Own.a tO) T.length (Own.c tO)),(4,[],.pointer (some ⟨mb,0,none⟩))]) ?_
        refine Rg [4,5,6,8,9,23,24,25,53,54,55] [] (fun _ => [((-9223372036854775808 : Int) ≤ ((j : Int) + 1) ∧ ((j : Int) + 1) ≤ 9223372036854775807)]) ⟨om,trivial⟩ ?_
        refine Cfg.setO (congrArg (fun (xq : Array Value) => (([(lb,.cells (bv d2) 35 (0,0)),(ub,.cells (bv d2) 35 (0,0)),(ob,.cells xq 59 (0,0)),(pb,.cells ((plc p1).toArray) 28 (0,0)),(mb,.cells ((oc omM).toArray) 59 (0,0))] ++ (Own.o 35 ((ps.flatMap dgc) ++ (dgc d2)) o9 ++ (Own.o 62 (T.flatMap thc) tO ++ (Own.o 35 (ids.flatMap dgc) iO ++ (Tl ++ []))))) : List (Nat × Obj))) (show _ = ((oc (comO mD o9 (ps ++ [d2]) p1.n p1.t)).toArray) from oc_setps mD_len ow o9 ps p1.n p1.t d2)) ?_
        refine Cfg.setO (congrArg (fun (xq : List Value) => (([(lb,.cells (bv d2) 35 (0,0)),(ub,.cells (bv d2) 35 (0,0)),(ob,.cells ((oc (comO mD o9 (ps ++ [d2]) p1.n p1.t)).toArray) 59 (0,0)),(pb,.cells ((plc p1).toArray) 28 (0,0)),(mb,.cells ((oc omM).toArray) 59 (0,0))] ++ (Own.o 35 xq o9 ++ (Own.o 62 (T.flatMap thc) tO ++ (Own.o 35 (ids.flatMap dgc) iO ++ (Tl ++ []))))) : List (Nat × Obj))) (show _ = ((ps ++ [d2]).flatMap dgc) from by rw [List.flatMap_append,List.flatMap_singleton])) ?_
        refine Cg (Γ' := [(55,[],.int .i64 ((j : Int) + 1)),(54,[],.int .i64 (p1.par.length : Int)),(53,[],.slice (some ⟨sc,offc,none⟩) p1.par.length p1.c),(9,[],.pointer (some ⟨ob,0,none⟩)),(8,[],.pointer (some ⟨pb,0,none⟩)),(25,[],.int .i64 (i : Int)),(24,[],.int .i64 (l.length : Int)),(23,[],.slice (some ⟨sa,offa,none⟩) l.length ca),(6,[],.slice (Own.a iO) ids.length (Own.c iO)),(5,[],.slice (Own.a tO) T.length (Own.c tO)),(4,[],.pointer (some ⟨mb,0,none⟩))]) ?_
        refine Cfg.setG (congrArg (fun (xq : Value) => ([(55,[],.int .i64 ((j : Int) + 1)),(54,[],.int .i64 (p1.par.length : Int)),(53,[],xq),(9,[],.pointer (some ⟨ob,0,none⟩)),(8,[],.pointer (some ⟨pb,0,none⟩)),(25,[],.int .i64 (i : Int)),(24,[],.int .i64 (l.length : Int)),(23,[],.slice (some ⟨sa,offa,none⟩) l.length ca),(6,[],.slice (Own.a iO) ids.length (Own.c iO)),(5,[],.slice (Own.a tO) T.length (Own.c tO)),(4,[],.pointer (some ⟨mb,0,none⟩))] : Env)) (show _ = .slice p1.a p1.par.length p1.c from by rw [hac])) ?_
        refine Cfg.again rfl (j + 1,ps ++ [d2],o9) ⟨by omega,by rw [List.flatMap_append,List.flatMap_singleton,List.length_append]; exact ko9,(fun d hd => (List.mem_append.1 hd).elim (hps d) (fun h => by rw [List.mem_singleton.1 h]; exact hd2l)),(fun d hd => (List.mem_append.1 hd).elim (hpi d) (fun h => by rw [List.mem_singleton.1 h]; exact hd2m)),by rw [List.length_append,List.length_singleton]; omega⟩ (by show p1.par.length - (j + 1) < p1.par.length - j; omega) (Conv.mk kr) (.cons _ (.cons _ (.cons_cons _ (.cons_cons _ (.cons_cons _ (List.Sublist.refl _))))))
       ·have c7 : ((decide (d2 ∈ ps)) = true) := (notF c7r)
        refine Rg [4,5,6,8,9,23,24,25,53,54,55] [] (fun _ => [((-9223372036854775808 : Int) ≤ ((j : Int) + 1) ∧ ((j : Int) + 1) ≤ 9223372036854775807)]) ⟨om,trivial⟩ ?_
        refine Cg (Γ' := [(55,[],.int .i64 ((j : Int) + 1)),(54,[],.int .i64 (p1.par.length : Int)),(53,[],.slice (some ⟨sc,offc,none⟩) p1.par.length p1.c),(9,[],.pointer (some ⟨ob,0,none⟩)),(8,[],.pointer (some ⟨pb,0,none⟩)),(25,[],.int .i64 (i : Int)),(24,[],.int .i64 (l.length : Int)),(23,[],.slice (some ⟨sa,offa,none⟩) l.length ca),(6,[],.slice (Own.a iO) ids.length (Own.c iO)),(5,[],.slice (Own.a tO) T.length (Own.c tO)),(4,[],.pointer (some ⟨mb,0,none⟩))]) ?_
        refine Cfg.setG (congrArg (fun (xq : Value) => ([(55,[],.int .i64 ((j : Int) + 1)),(54,[],.int .i64 (p1.par.length : Int)),(53,[],xq),(9,[],.pointer (some ⟨ob,0,none⟩)),(8,[],.pointer (some ⟨pb,0,none⟩)),(25,[],.int .i64 (i : Int)),(24,[],.int .i64 (l.length : Int)),(23,[],.slice (some ⟨sa,offa,none⟩) l.length ca),(6,[],.slice (Own.a iO) ids.length (Own.c iO)),(5,[],.slice (Own.a tO) T.length (Own.c tO)),(4,[],.pointer (some ⟨mb,0,none⟩))] : Env)) (show _ = .slice p1.a p1.par.length p1.c from by rw [hac])) ?_
        refine Cfg.again rfl (j + 1,ps,ow) ⟨by omega,hokP,hps,hpi,hpl⟩ (by show p1.par.length - (j + 1) < p1.par.length - j; omega) (Conv.mk kr) (.cons _ (.cons_cons _ (.cons_cons _ (.cons_cons _ (List.Sublist.refl _)))))
      ·have c6k : (decide ((ps.length : Int) < (2 : Int))) = false := (by simpa using c6)
       have c6q := (of_decide_eq_false c6k)
       refine CfgL.known 72 (b := (decide ((ps.length : Int) < (2 : Int)))) kr false c6k ?_
       refine Lp 7 [(2,false,none),(2,false,none),(2,false,none),(2,false,none),(2,false,none),(2,false,none)] (some [4,5,6,8,9,12,23,24,25,53,54,55,79]) (fun _ => [((.bool false : Value) ≠ .bool true),((.bool false : Value) ≠ .bool true),((.bool false : Value) ≠ .bool true),((.bool false : Value) ≠ .bool true),((.bool false : Value) ≠ .bool true),((.bool false : Value) ≠ .bool true)]) ⟨(by simp),(by simp),(by simp),(by simp),(by simp),(by simp),trivial⟩ ?_
       refine CfgL.done rfl ?_
       refine Cfg.condF rfl (b := false) kr rfl ?_
       refine Rg [4,5,6,8,9,23,24,25,53,54,55] [] (fun _ => [((-9223372036854775808 : Int) ≤ ((j : Int) + 1) ∧ ((j : Int) + 1) ≤ 9223372036854775807)]) ⟨om,trivial⟩ ?_
       refine Cg (Γ' := [(55,[],.int .i64 ((j : Int) + 1)),(54,[],.int .i64 (p1.par.length : Int)),(53,[],.slice (some ⟨sc,offc,none⟩) p1.par.length p1.c),(9,[],.pointer (some ⟨ob,0,none⟩)),(8,[],.pointer (some ⟨pb,0,none⟩)),(25,[],.int .i64 (i : Int)),(24,[],.int .i64 (l.length : Int)),(23,[],.slice (some ⟨sa,offa,none⟩) l.length ca),(6,[],.slice (Own.a iO) ids.length (Own.c iO)),(5,[],.slice (Own.a tO) T.length (Own.c tO)),(4,[],.pointer (some ⟨mb,0,none⟩))]) ?_
       refine Cfg.setG (congrArg (fun (xq : Value) => ([(55,[],.int .i64 ((j : Int) + 1)),(54,[],.int .i64 (p1.par.length : Int)),(53,[],xq),(9,[],.pointer (some ⟨ob,0,none⟩)),(8,[],.pointer (some ⟨pb,0,none⟩)),(25,[],.int .i64 (i : Int)),(24,[],.int .i64 (l.length : Int)),(23,[],.slice (some ⟨sa,offa,none⟩) l.length ca),(6,[],.slice (Own.a iO) ids.length (Own.c iO)),(5,[],.slice (Own.a tO) T.length (Own.c tO)),(4,[],.pointer (some ⟨mb,0,none⟩))] : Env)) (show _ = .slice p1.a p1.par.length p1.c from by rw [hac])) ?_
       refine Cfg.again rfl (j + 1,ps,ow) ⟨by omega,hokP,hps,hpi,hpl⟩ (by show p1.par.length - (j + 1) < p1.par.length - j; omega) (Conv.mk kr) (.cons _ (.cons_cons _ (.cons_cons _ (.cons_cons _ (List.Sublist.refl _)))))
     ·have c5 := (of_decide_eq_false c5r)
      refine Cfg.begL rfl ?_
      refine Lp 1 [(0,false,some (.agg (oc (comO mD ow ps p1.n p1.t)).toArray))] (some [4,5,6,8,9,23,24,25,89]) (fun S => [(∀ w1,S w1 → (loadVar 59 ⟨ob,0,none⟩).run Tryz.prog w1 = .ok (.agg (oc (comO mD ow ps p1.n p1.t)).toArray) w1)]) ⟨(fun w1 h => load_list Tryz.underlying59 rfl kr (oc_len mD_len d0_len) (fun j v hj => h.ocell 0 rfl (by rw [List.getElem?_toArray]; exact (fun j v hj => by rw [Nat.zero_add]; exact hj) j v hj))),trivial⟩ ?_
      refine Le (Eff.callA (vs := [.agg (oc (comO mD ow ps p1.n p1.t)).toArray]) (.int .i64 (chk (comO mD ow ps p1.n p1.t))) rfl Tryz.func13 rfl rfl kr (fun w1 h => rChk (comO mD ow ps p1.n p1.t) (Own.o 35 (ps.flatMap dgc) ow ++ []) w1 (comO_in mD_len hokP hps hpl p1.n p1.t) (h.has (fun e he => by rw [List.append_nil] at he; simp [he])) (.inl rfl))) ?_
      rintro ⟨⟩ -
      refine Lp 1 [] (some [4,5,6,8,9,23,24,25,91]) n0 trivial ?_
      refine CfgL.done rfl ?_
      refine Cfg.cond rfl (b := ((chk (comO mD ow ps p1.n p1.t)) != (0 : Int))) kr (fun c9r => ?_) (fun c9r => ?_)
      ·have c9 := (bne_iff_ne.1 c9r)
       refine Rg [4,5,6,23,24,25] [] (fun _ => [((-9223372036854775808 : Int) ≤ ((i : Int) + 1) ∧ ((i : Int) + 1) ≤ 9223372036854775807)]) ⟨om,trivial⟩ ?_
       refine Cfg.again rfl (i + 1,T,ids,tO,iO,Tl) ⟨by omega,hL.skip,hokT,hokI⟩ (by show l.length - (i + 1) < l.length - i; omega) (Conv.mk kr) (.cons _ (.cons _ (.cons_cons _ (show List.Sublist (Own.o 62 (T.flatMap thc) tO ++ (Own.o 35 (ids.flatMap dgc) iO ++ (Tl ++ []))) (Own.o 35 (ps.flatMap dgc) ow ++ (Own.o 62 (T.flatMap thc) tO ++ (Own.o 35 (ids.flatMap dgc) iO ++ (Tl ++ [])))) from (List.Sublist.trans (List.Sublist.append (List.Sublist.refl (Own.o 62 (T.flatMap thc) tO)) (List.Sublist.append (List.Sublist.refl (Own.o 35 (ids.flatMap dgc) iO)) (List.Sublist.append (List.Sublist.refl (Tl)) (List.nil_sublist _)))) (List.sublist_append_right (Own.o 35 (ps.flatMap dgc) ow) _))))))
      ·have c9 := (bne_eq_false_iff_eq.1 c9r)
       refine Cg (Γ' := [(91,[],.bool ((chk (comO mD ow ps p1.n p1.t)) != (0 : Int))),(9,[],.pointer (some ⟨ob,0,none⟩)),(8,[],.pointer (some ⟨pb,0,none⟩)),(25,[],.int .i64 (i : Int)),(24,[],.int .i64 (l.length : Int)),(23,[],.slice (some ⟨sa,offa,none⟩) l.length ca),(6,[],.slice (Own.a iO) ids.length (Own.c iO)),(5,[],.slice (Own.a tO) T.length (Own.c tO)),(4,[],.pointer (some ⟨mb,0,none⟩))]) ?_
       refine Cfg.permO (O' := [(ob,.cells ((oc (comO mD ow ps p1.n p1.t)).toArray) 59 (0,0)),(pb,.cells ((plc p1).toArray) 28 (0,0)),(mb,.cells ((oc omM).toArray) 59 (0,0))] ++ (Own.o 62 (T.flatMap thc) tO ++ (Own.o 35 (ids.flatMap dgc) iO ++ (Own.o 35 (ps.flatMap dgc) ow ++ (Tl ++ []))))) (perm_v _ _ _ _ _) ?_
       obtain ⟨dI,hdI⟩ : ∃ q,q = shaD (obS (comO mD ow ps p1.n p1.t)).data.toList := ⟨_,rfl⟩
       have hdIl : dI.length = 32 := by rw [hdI]; exact shaD_len _
       refine Cfg.begL rfl ?_
       refine Lp 1 [(0,false,some (.agg (oc (comO mD ow ps p1.n p1.t)).toArray))] (some [4,5,6,8,9,23,24,25,92]) (fun S => [(∀ w1,S w1 → (loadVar 59 ⟨ob,0,none⟩).run Tryz.prog w1 = .ok (.agg (oc (comO mD ow ps p1.n p1.t)).toArray) w1)]) ⟨(fun w1 h => load_list Tryz.underlying59 rfl kr (oc_len mD_len d0_len) (fun j v hj => h.ocell 0 rfl (by rw [List.getElem?_toArray]; exact (fun j v hj => by rw [Nat.zero_add]; exact hj) j v hj))),trivial⟩ ?_
       refine Le (Eff.callA (vs := [.agg (oc (comO mD ow ps p1.n p1.t)).toArray]) (.agg (bv dI)) rfl Tryz.func12 rfl rfl kr (fun w1 h => by rw [hdI]; exact rID (comO mD ow ps p1.n p1.t) (Own.o 35 (ps.flatMap dgc) ow ++ []) w1 (comO_in mD_len hokP hps hpl p1.n p1.t) (h.has (fun e he => by rw [List.append_nil] at he; simp [he])) (.inl rfl) hp1o.n)) ?_
       rintro ⟨⟩ -
       refine Le (Eff.alloc (z := (.agg (bv (List.replicate 32 0)))) rfl kr) ?_
       rintro vb ⟨hvb,nvb⟩
       refine Le (Eff.storeN (b := vb) (off := 0) (vs := (bv dI)) (n := 32) rfl kr kr kr ((bv_size _).trans hdIl) (all_bv _) 0 (cs := (bv (List.replicate 32 0))) (e := 35) kr (by rw [zdg_size]; omega)) ?_
       rintro ⟨⟩ -
       refine CfgL.setO (congrArg (fun (xq : Array Value) => (([(vb,.cells xq 35 (0,0)),(ob,.cells ((oc (comO mD ow ps p1.n p1.t)).toArray) 59 (0,0)),(pb,.cells ((plc p1).toArray) 28 (0,0)),(mb,.cells ((oc omM).toArray) 59 (0,0))] ++ (Own.o 62 (T.flatMap thc) tO ++ (Own.o 35 (ids.flatMap dgc) iO ++ (Own.o 35 (ps.flatMap dgc) ow ++ (Tl ++ []))))) : List (Nat × Obj))) (show _ = (bv dI) from spl_all (((bv_size _).trans hdIl).trans zdg_size.symm))) ?_
       refine CfgL.done rfl ?_
       refine Cg (Γ' := [(13,[],.pointer (some ⟨vb,0,none⟩)),(9,[],.pointer (some ⟨ob,0,none⟩)),(8,[],.pointer (some ⟨pb,0,none⟩)),(25,[],.int .i64 (i : Int)),(24,[],.int .i64 (l.length : Int)),(23,[],.slice (some ⟨sa,offa,none⟩) l.length ca),(6,[],.slice (Own.a iO) ids.length (Own.c iO)),(5,[],.slice (Own.a tO) T.length (Own.c tO)),(4,[],.pointer (some ⟨mb,0,none⟩))]) ?_
       refine Cfg.begL rfl ?_
       refine Lp 2 [dZ,(0,false,some (.agg (bv dI)))] none (fun S => [(∀ w1,S w1 → (loadVar 35 ⟨vb,0,none⟩).run Tryz.prog w1 = .ok (.agg (bv dI)) w1)]) ⟨(fun w1 h => h.oload 0 rfl Tryz.underlying35 rfl (n := 32) kr ((bv_size _).trans hdIl)),trivial⟩ ?_
       refine Le (Eff.buildAgg (vs := (bv dI)) (n := 32) rfl kr Tryz.underlying31 kr (z := (.agg (bv (List.replicate 32 0)))) kr ((bv_size _).trans hdIl) (by decide) (by decide)) ?_
       rintro kb ⟨hkb,nkb⟩
       refine Le (Eff.appendF rfl 32 32 Tryz.underlying31 kr (z := (.agg (bv (List.replicate 32 0)))) kr kr iO (xs := (ids.flatMap dgc)) hokI kr (b2 := kb) (off2 := 0) (m := 1) (c2 := 1) kr (dgc dI) (dgc_len hdIl) (all_dgc _) ([(kb,.cells (bv dI) 35 (0,0)),(vb,.cells (bv dI) 35 (0,0)),(ob,.cells ((oc (comO mD ow ps p1.n p1.t)).toArray) 59 (0,0)),(pb,.cells ((plc p1).toArray) 28 (0,0)),(mb,.cells ((oc omM).toArray) 59 (0,0))] ++ Own.o 62 (T.flatMap thc) tO) ([] ++ (Own.o 35 (ps.flatMap dgc) ow ++ (Tl ++ []))) (by rfl) (fun w1 h j v hj => by rw [Nat.zero_add]; exact h.ocell 0 rfl (by rw [← Array.getElem?_toList]; exact hj)) (by have := hL.len; have := hL.tl; omega) (by have := hL.len; have := hL.tl; omega)) ?_
       rintro o12 ko12
       refine Lp 1 [] (some [4,5,6,8,9,13,23,24,25]) n0 trivial ?_
       refine CfgL.done rfl ?_
       refine Rg [4,5,6,9,13,23,24,25,100] [dZ,(0,false,some (.bool p1.lost))] (fun S => [(∀ w1,S w1 → w1.cell? ⟨pb,4,none⟩ = some (.bool p1.lost))]) ⟨(fun w1 h => h.ocell 3 rfl rfl),trivial⟩ ?_
       refine Cfg.condT rfl (b := (!p1.lost)) kr (by rw [hp1o.lost]; rfl) ?_
       refine Cfg.begL rfl ?_
       refine Lp 4 [dZ,(0,false,some (.agg (bv dI))),(0,false,some (.agg (oc (comO mD ow ps p1.n p1.t)).toArray)),(0,false,some (.agg (thc ⟨dI,(comO mD ow ps p1.n p1.t)⟩).toArray))] (some [4,5,6,23,24,25,101,104]) (fun S => [(∀ w1,S w1 → (loadVar 35 ⟨vb,0,none⟩).run Tryz.prog w1 = .ok (.agg (bv dI)) w1),(∀ w1,S w1 → (loadVar 59 ⟨ob,0,none⟩).run Tryz.prog w1 = .ok (.agg (oc (comO mD ow ps p1.n p1.t)).toArray) w1),(∀ w1,S w1 → (Instr.build 62 #[(0,.agg (bv dI)),(1,.agg (oc (comO mD ow ps p1.n p1.t)).toArray)]).run Tryz.prog w1 = .ok (.agg (thc ⟨dI,(comO mD ow ps p1.n p1.t)⟩).toArray) w1)]) ⟨(fun w1 h => h.oload 1 rfl Tryz.underlying35 rfl (n := 32) kr ((bv_size _).trans hdIl)),(fun w1 h => load_list Tryz.underlying59 rfl kr (oc_len mD_len d0_len) (fun j v hj => h.ocell 2 rfl (by rw [List.getElem?_toArray]; exact (fun j v hj => by rw [Nat.zero_add]; exact hj) j v hj))),(fun w1 _ => build_th hdIl mD_len d0_len w1),trivial⟩ ?_
       refine Le (Eff.buildAgg (vs := (thc ⟨dI,(comO mD ow ps p1.n p1.t)⟩).toArray) (n := 104) rfl kr Tryz.underlying30 kr (z := (.agg (thc tz).toArray)) kr (by rw [List.size_toArray]; unfold thc; rw [List.length_append,dgc_len hdIl,oc_len mD_len d0_len]) (by decide) (by decide)) ?_
       rintro hb ⟨hhb,nhb⟩
       refine Le (Eff.appendF rfl 104 240 Tryz.underlying30 kr (z := (.agg (thc tz).toArray)) kr kr tO (xs := (T.flatMap thc)) hokT kr (b2 := hb) (off2 := 0) (m := 1) (c2 := 1) kr (thc ⟨dI,(comO mD ow ps p1.n p1.t)⟩) (by unfold thc; rw [List.length_append,dgc_len hdIl,oc_len mD_len d0_len]) (all_thc _) [(hb,.cells ((thc ⟨dI,(comO mD ow ps p1.n p1.t)⟩).toArray) 62 (0,0)),(kb,.cells (bv dI) 35 (0,0)),(vb,.cells (bv dI) 35 (0,0)),(ob,.cells ((oc (comO mD ow ps p1.n p1.t)).toArray) 59 (0,0)),(pb,.cells ((plc p1).toArray) 28 (0,0)),(mb,.cells ((oc omM).toArray) 59 (0,0))] ([] ++ (Own.o 35 ((ids.flatMap dgc) ++ (dgc dI)) o12 ++ (Own.o 35 (ps.flatMap dgc) ow ++ (Tl ++ [])))) (by rfl) (fun w1 h j v hj => by rw [Nat.zero_add]; exact h.ocell 0 rfl (by rw [List.getElem?_toArray]; exact hj)) (by have := hL.len; have := hL.tl; omega) (by have := hL.len; have := hL.tl; omega)) ?_
       rintro o13 ko13
       refine Lp 1 [] (some [4,5,6,23,24,25]) n0 trivial ?_
       refine CfgL.done rfl ?_
       refine Rg [4,5,6,23,24,25] [] (fun _ => [((-9223372036854775808 : Int) ≤ ((i : Int) + 1) ∧ ((i : Int) + 1) ≤ 9223372036854775807)]) ⟨om,trivial⟩ ?_
       refine Cfg.setO (congrArg (fun (xq : List Value) => (([(hb,.cells ((thc ⟨dI,(comO mD ow ps p1.n p1.t)⟩).toArray) 62 (0,0)),(kb,.cells (bv dI) 35 (0,0)),(vb,.cells (bv dI) 35 (0,0)),(ob,.cells ((oc (comO mD ow ps p1.n p1.t)).toArray) 59 (0,0)),(pb,.cells ((plc p1).toArray) 28 (0,0)),(mb,.cells ((oc omM).toArray) 59 (0,0))] ++ (Own.o 62 xq o13 ++ (Own.o 35 ((ids.flatMap dgc) ++ (dgc dI)) o12 ++ (Own.o 35 (ps.flatMap dgc) ow ++ (Tl ++ []))))) : List (Nat × Obj))) (show _ = ((T ++ [(⟨dI,(comO mD ow ps p1.n p1.t)⟩ : Th)]).flatMap thc) from by rw [List.flatMap_append,List.flatMap_singleton])) ?_
       refine Cfg.setO (congrArg (fun (xq : List Value) => (([(hb,.cells ((thc ⟨dI,(comO mD ow ps p1.n p1.t)⟩).toArray) 62 (0,0)),(kb,.cells (bv dI) 35 (0,0)),(vb,.cells (bv dI) 35 (0,0)),(ob,.cells ((oc (comO mD ow ps p1.n p1.t)).toArray) 59 (0,0)),(pb,.cells ((plc p1).toArray) 28 (0,0)),(mb,.cells ((oc omM).toArray) 59 (0,0))] ++ (Own.o 62 ((T ++ [(⟨dI,(comO mD ow ps p1.n p1.t)⟩ : Th)]).flatMap thc) o13 ++ (Own.o 35 xq o12 ++ (Own.o 35 (ps.flatMap dgc) ow ++ (Tl ++ []))))) : List (Nat × Obj))) (show _ = ((ids ++ [dI]).flatMap dgc) from by rw [List.flatMap_append,List.flatMap_singleton])) ?_
       refine Cg (Γ' := [(25,[],.int .i64 ((i : Int) + 1)),(5,[],.slice (Own.a o13) ((T.length + 1)) (Own.c o13)),(6,[],.slice (Own.a o12) ((ids.length + 1)) (Own.c o12)),(24,[],.int .i64 (l.length : Int)),(23,[],.slice (some ⟨sa,offa,none⟩) l.length ca),(4,[],.pointer (some ⟨mb,0,none⟩))]) ?_
       refine Cfg.setG (congrArg (fun (xq : Nat) => ([(25,[],.int .i64 ((i : Int) + 1)),(5,[],.slice (Own.a o13) xq (Own.c o13)),(6,[],.slice (Own.a o12) ((ids.length + 1)) (Own.c o12)),(24,[],.int .i64 (l.length : Int)),(23,[],.slice (some ⟨sa,offa,none⟩) l.length ca),(4,[],.pointer (some ⟨mb,0,none⟩))] : Env)) (show _ = ((T ++ [(⟨dI,(comO mD ow ps p1.n p1.t)⟩ : Th)]).length) from by rw [List.length_append]; rfl)) ?_
       refine Cg (Γ' := [(25,[],.int .i64 ((i : Int) + 1)),(5,[],.slice (Own.a o13) ((T ++ [(⟨dI,(comO mD ow ps p1.n p1.t)⟩ : Th)]).length) (Own.c o13)),(6,[],.slice (Own.a o12) ((ids.length + 1)) (Own.c o12)),(24,[],.int .i64 (l.length : Int)),(23,[],.slice (some ⟨sa,offa,none⟩) l.length ca),(4,[],.pointer (some ⟨mb,0,none⟩))]) ?_
       refine Cfg.setG (congrArg (fun (xq : Nat) => ([(25,[],.int .i64 ((i : Int) + 1)),(5,[],.slice (Own.a o13) ((T ++ [(⟨dI,(comO mD ow ps p1.n p1.t)⟩ : Th)]).length) (Own.c o13)),(6,[],.slice (Own.a o12) xq (Own.c o12)),(24,[],.int .i64 (l.length : Int)),(23,[],.slice (some ⟨sa,offa,none⟩) l.length ca),(4,[],.pointer (some ⟨mb,0,none⟩))] : Env)) (show _ = ((ids ++ [dI]).length) from by rw [List.length_append]; rfl)) ?_
       refine Cfg.permO (O' := [(hb,.cells ((thc ⟨dI,(comO mD ow ps p1.n p1.t)⟩).toArray) 62 (0,0)),(kb,.cells (bv dI) 35 (0,0)),(vb,.cells (bv dI) 35 (0,0)),(ob,.cells ((oc (comO mD ow ps p1.n p1.t)).toArray) 59 (0,0)),(pb,.cells ((plc p1).toArray) 28 (0,0)),(mb,.cells ((oc omM).toArray) 59 (0,0))] ++ (Own.o 62 ((T ++ [(⟨dI,(comO mD ow ps p1.n p1.t)⟩ : Th)]).flatMap thc) o13 ++ (Own.o 35 ((ids ++ [dI]).flatMap dgc) o12 ++ ((Own.o 35 (ps.flatMap dgc) ow ++ Tl) ++ [])))) (perm_w _ _ _ _ _) ?_
       refine Cfg.again rfl (i + 1,(T ++ [(⟨dI,(comO mD ow ps p1.n p1.t)⟩ : Th)]),(ids ++ [dI]),o13,o12,(Own.o 35 (ps.flatMap dgc) ow ++ Tl)) ⟨by omega,hL.add (W := Own.o 35 (ps.flatMap dgc) ow) hdIl (comO_in mD_len hokP hps hpl p1.n p1.t) (by rw [comO_lk]; intro d hd; rcases List.mem_cons.1 hd with rfl | hd; exact hL.m; exact hpi d hd) (by rw [comO_lk]; rw [List.length_cons]; omega),by rw [List.flatMap_append,List.flatMap_singleton,List.length_append]; exact ko13,by rw [List.flatMap_append,List.flatMap_singleton,List.length_append]; exact ko12⟩ (by show l.length - (i + 1) < l.length - i; omega) (Conv.mk kr) (.cons _ (.cons _ (.cons _ (.cons _ (.cons _ (.cons_cons _ (List.Sublist.refl _)))))))
  ·have c1 := (of_decide_eq_false c1r)
   refine Rg [2,3] [] n0 trivial ?_
   refine Cfg.ret rfl (rs := [.tmp 2,.tmp 3]) rfl [.slice (Own.a tO) T.length (Own.c tO),.slice (Own.a iO) ids.length (Own.c iO)] ⟨kr,by kernel_rfl,trivial⟩ (fun w1 hp => ?_)
   exact ⟨T,ids,tO,iO,Tl,⟨hL.t,hL.d,hL.m,by have := hL.len; omega,by have := hL.tl; omega,hL.has,hL.links,hL.few⟩,hokT,hokI,rfl,_,hp.sub (List.sublist_append_right _ _)⟩
end Go.Proofs.YtinhinjpfmdfiaaGreatDoor
