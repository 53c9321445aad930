/- Texts on which the proof of this claim stands: K1, K2, K3, K4, K5, K6, K7, K8, K9, K10, Open, Open2, Open3, Open4, K11, K12, K13, K14, K15, K16, K27, K17, K18, K19, K20, Ob1, Ob2. -/
import Derived.WalkKit
import Derived.OrdersHeld
import Derived.KernelRfl
import Derived.TacticsIn
import Derived.OrdersIn
import Derived.Below
import Derived.Deep.LoopGhost
import Derived.Sort.LoopGhostIn
import Derived.RangeFuncIn
import Derived.RangeFuncLeaves
import Derived.Stop.BytesEq
import Derived.Deep.Slices
import Derived.ProofKit
import Derived.OpenShut
import Derived.SizedLaws
import Derived.ChangeArms
import Derived.Deep.Strs
import Derived.Lib.AppendStr
import Derived.Lib.UnsafeStr
import Derived.Lib.Builder
import Derived.ArgAppend
import Derived.RangeFuncNested
import Derived.Lib.Overlaps
import Derived.Test.YtojefiolcedigaaGreatDoorChecked
namespace Go.Proofs.YtojefiolcedigaaGreatDoor
namespace K
abbrev Ch := List (Nat × Bool)
abbrev Env := List (Nat × Ch × Value)
def Holds (tm : Array Value) (ch : Ch) : Prop := ∀ p ∈ ch,tm.getD p.1 undef = .bool p.2
structure St (n : Nat) (D : List Deferred) (Γ : Env) (a : Act) : Prop where
 size : a.tmps.size = n
 dfr : a.defers = D
 sl : ∀ e ∈ Γ,(Holds a.tmps e.2.1 → a.tmps.getD e.1 undef = e.2.2) ∧ (¬ Holds a.tmps e.2.1 → a.tmps.getD e.1 undef = undef)
def sub (c d : Ch) : Bool := c.all fun p => d.any fun q => Nat.beq q.1 p.1 && (q.2 == p.2)
def find : Env → Nat → Option (Ch × Value)
 | [],_ => none
 | e :: Γ,t => bif Nat.beq e.1 t then some e.2 else find Γ t
def look (Γ : Env) (ch : Ch) (t : Nat) : Option Value :=
 match find Γ t with
 | some e => bif sub e.1 ch then some e.2 else none
 | none => none
def opd (Γ : Env) (ch : Ch) : Operand → Option Value
 | .tmp t => look Γ ch t
 | .const v => some v
 | .global g => some (.pointer (some ⟨g,0,none⟩))
 | .func f => some (.func (.func f) #[] #[])
def put (Γ : Env) (d : Nat) (ch : Ch) (v : Value) : Env :=
 (d,ch,v) :: Γ.filter fun e => !(Nat.beq e.1 d) && !(e.2.1.any fun p => Nat.beq p.1 d)
theorem beq_iff {a b : Nat} : Nat.beq a b = true ↔ a = b := ⟨Nat.eq_of_beq_eq_true,fun h => by rw [h]; exact Nat.beq_refl b⟩
theorem Holds.sub {tm : Array Value} {c d : Ch} (h : Holds tm d) (hs : K.sub c d = true) : Holds tm c := by
 intro p hp
 have h1 := List.all_eq_true.1 hs p hp
 obtain ⟨q,hq,hb⟩ := List.any_eq_true.1 h1
 simp only [Bool.and_eq_true,beq_iff,beq_iff_eq] at hb
 rw [← hb.1,← hb.2]; exact h q hq
theorem find_mem {Γ : Env} {t : Nat} {e : Ch × Value} (h : find Γ t = some e) : (t,e) ∈ Γ := by
 induction Γ with
 | nil => simp [find] at h
 | cons x Γ ih =>
  simp only [find] at h
  cases hb : Nat.beq x.1 t with
  | true => rw [hb] at h; simp only [cond_true,Option.some.injEq] at h; rw [← beq_iff.1 hb,← h]; exact List.mem_cons_self ..
  | false => rw [hb] at h; exact List.mem_cons_of_mem _ (ih h)
theorem look_ok {n : Nat} {D : List Deferred} {Γ : Env} {a : Act} {ch : Ch} {t : Nat} {v : Value} (hs : St n D Γ a) (hc : Holds a.tmps ch) (h : look Γ ch t = some v) : a.tmps.getD t undef = v := by
 unfold look at h
 cases hf : find Γ t with
 | none => rw [hf] at h; cases h
 | some e =>
  rw [hf] at h
  cases hb : K.sub e.1 ch with
  | false => simp [hb] at h
  | true =>
   simp only [hb,cond_true,Option.some.injEq] at h
   rw [← h]
   exact (hs.sl _ (find_mem hf)).1 (hc.sub hb)
theorem opd_ok {n : Nat} {D : List Deferred} {Γ : Env} {a : Act} {ch : Ch} {x : Operand} {v : Value} (hs : St n D Γ a) (hc : Holds a.tmps ch) (h : opd Γ ch x = some v) : a.eval x = v := by
 cases x with
 | tmp t => exact look_ok hs hc h
 | const u => simpa [opd,Act.eval] using h
 | global g => simpa [opd,Act.eval] using h
 | func f => simpa [opd,Act.eval] using h
theorem holds_nil (tm : Array Value) : Holds tm [] := fun _ h => by cases h
theorem getD_set {tm : Array Value} {d t : Nat} {v : Value} : (tm.setIfInBounds d v).getD t undef = if t = d ∧ d < tm.size then v else tm.getD t undef := by
 simp only [Array.getD_eq_getD_getElem?,Array.getElem?_setIfInBounds]
 by_cases h : d = t
 ·subst h
  by_cases hd : d < tm.size
  ·simp [hd]
  ·simp [hd]
 ·have h' : ¬ t = d := fun e => h e.symm
  simp [h,h']
theorem holds_set {tm : Array Value} {d : Nat} {v : Value} {ch : Ch} (h : ch.any (fun p => Nat.beq p.1 d) = false) : Holds (tm.setIfInBounds d v) ch ↔ Holds tm ch := by
 have key : ∀ p ∈ ch,(tm.setIfInBounds d v).getD p.1 undef = tm.getD p.1 undef := by
  intro p hp
  have h1 : ¬ Nat.beq p.1 d = true := fun hb => by
   have h3 : ch.any (fun p => Nat.beq p.1 d) = true := List.any_eq_true.2 ⟨p,hp,hb⟩
   rw [h] at h3; cases h3
  rw [getD_set,if_neg]
  exact fun hh => h1 (beq_iff.2 hh.1)
 exact ⟨fun hh p hp => (key p hp) ▸ hh p hp,fun hh p hp => (key p hp).trans (hh p hp)⟩
theorem put_ok {n : Nat} {D : List Deferred} {Γ : Env} {a : Act} {d : Nat} {ch : Ch} {v u : Value} (hs : St n D Γ a) (hd : d < n) (hch : ch.any (fun p => Nat.beq p.1 d) = false)
  (h1 : Holds a.tmps ch → u = v) (h2 : ¬ Holds a.tmps ch → u = undef) : St n D (put Γ d ch v) (a.put (some d) u) := by
 have hsz : d < a.tmps.size := by rw [hs.size]; exact hd
 refine ⟨by simp [Act.put,hs.size],by simp [Act.put,hs.dfr],?_⟩
 intro e he
 simp only [Act.put]
 rcases List.mem_cons.1 he with rfl | he
 ·simp only [holds_set hch,getD_set,hsz,and_self,if_true]
  exact ⟨h1,h2⟩
 ·obtain ⟨hm,hf⟩ := List.mem_filter.1 he
  simp only [Bool.and_eq_true,Bool.not_eq_true'] at hf
  have hne : ¬ e.1 = d := fun hh => by
   have := beq_iff.2 hh
   rw [hf.1] at this; cases this
  rw [holds_set hf.2,getD_set,if_neg (fun hh => hne hh.1)]
  exact hs.sl e hm
theorem St.mono {n : Nat} {D : List Deferred} {Γ Γ' : Env} {a : Act} (hs : St n D Γ a) (h : ∀ e ∈ Γ',e ∈ Γ) : St n D Γ' a := ⟨hs.size,hs.dfr,fun e he => hs.sl e (h e he)⟩
def keep (ks : List Nat) (Γ : Env) : Env := Γ.filter fun e => e.2.1.isEmpty && ks.any fun k => Nat.beq k e.1
theorem keep_ok {n : Nat} {D : List Deferred} {Γ : Env} {a : Act} (ks : List Nat) (hs : St n D Γ a) : St n D (keep ks Γ) a := hs.mono fun _ he => (List.mem_filter.1 he).1
def lo : IntKind → Int
 | .i8 => -128 | .i16 => -32768 | .i32 => -2147483648 | .i64 => -9223372036854775808 | _ => 0
def hi : IntKind → Int
 | .i8 => 127 | .i16 => 32767 | .i32 => 2147483647 | .i64 => 9223372036854775807 | .u8 => 255 | .u16 => 65535 | .u32 => 4294967295 | .u64 => 18446744073709551615
def md : IntKind → Int
 | .i8 | .u8 => 256 | .i16 | .u16 => 65536 | .i32 | .u32 => 4294967296 | .i64 | .u64 => 18446744073709551616
def sg : IntKind → Bool
 | .i8 | .i16 | .i32 | .i64 => true
 | _ => false
theorem wrap_in {k : IntKind} {n : Int} (h : lo k ≤ n ∧ n ≤ hi k) : k.wrap n = n := by
 cases k <;> simp only [lo,hi] at h <;> simp [IntKind.wrap,IntKind.signed,IntKind.bits] <;> omega
theorem wrap_un {k : IntKind} (hk : sg k = false) (n : Int) : k.wrap n = n % md k := by
 cases k <;> simp only [sg,Bool.true_eq_false] at hk <;> simp [IntKind.wrap,IntKind.signed,IntKind.bits,md]
def nv (k : IntKind) (n : Int) : Value × List Prop :=
 bif sg k then (.int k n,[lo k ≤ n ∧ n ≤ hi k]) else (.int k (n % md k),[])
def All : List Prop → Prop
 | [] => True
 | p :: l => p ∧ All l
theorem All.mem {l : List Prop} (h : All l) : ∀ p ∈ l,p := by
 induction l with
 | nil => intro p hp; cases hp
 | cons q l ih =>
  intro p hp
  rcases List.mem_cons.1 hp with rfl | hp
  ·exact h.1
  ·exact ih h.2 p hp
theorem nv_ok {k : IntKind} {n : Int} (h : ∀ p ∈ (nv k n).2,p) : Value.int k (k.wrap n) = (nv k n).1 := by
 unfold nv at *
 cases hk : sg k with
 | true =>
  simp only [hk,cond_true,List.mem_cons,List.not_mem_nil,or_false,forall_eq] at h
  simp only [cond_true]
  rw [wrap_in h]
 | false => simp only [cond_false]; rw [wrap_un hk]
end K
end Go.Proofs.YtojefiolcedigaaGreatDoor
namespace Go.Proofs.YtojefiolcedigaaGreatDoor
namespace K
def Yl (P : Program) (S : World → Prop) (ρ : Operand → Value) (o : Oper) (v : Value) : Prop := ∀ w,S w → (execOp ρ o).run P w = .ok (.value v) w
def binI (op : BinOp) (k : IntKind) (a b : Int) : Option (Value × List Prop) :=
 match op with
 | .add => some (nv k (a + b))
 | .sub => some (nv k (a - b))
 | .mul => some (nv k (a * b))
 | .quo => some (.int k (a / b),[0 ≤ a ∧ a ≤ hi k ∧ 0 < b])
 | .rem => some (.int k (a % b),[0 ≤ a ∧ 0 < b])
 | .and => some (.int k ((a.toNat &&& b.toNat : Nat) : Int),[(0 ≤ a ∧ a ≤ hi k) ∧ 0 ≤ b ∧ b ≤ hi k])
 | .or => some (.int k ((a.toNat ||| b.toNat : Nat) : Int),[(0 ≤ a ∧ a ≤ hi k) ∧ 0 ≤ b ∧ b ≤ hi k])
 | .xor => some (.int k ((a.toNat ^^^ b.toNat : Nat) : Int),[(0 ≤ a ∧ a ≤ hi k) ∧ 0 ≤ b ∧ b ≤ hi k])
 | .eql => some (.bool (a == b),[])
 | .neq => some (.bool (a != b),[])
 | .lss => some (.bool (decide (a < b)),[])
 | .leq => some (.bool (decide (a ≤ b)),[])
 | .gtr => some (.bool (decide (a > b)),[])
 | .geq => some (.bool (decide (a ≥ b)),[])
 | _ => none
def binS (op : BinOp) (x y : ByteArray) : Option (Value × List Prop) :=
 match op with
 | .add => some (.string (x ++ y),[x.size + y.size ≤ 9223372036854775807])
 | .eql => some (.bool (x.toList == y.toList),[])
 | .neq => some (.bool (!(x.toList == y.toList)),[])
 | .lss => some (.bool (Op.bytesLess x.toList y.toList),[])
 | .leq => some (.bool (Op.bytesLess x.toList y.toList || x.toList == y.toList),[])
 | .gtr => some (.bool (!(Op.bytesLess x.toList y.toList || x.toList == y.toList)),[])
 | .geq => some (.bool (!(Op.bytesLess x.toList y.toList)),[])
 | _ => none
def cvt (k k' : IntKind) (n : Int) : Value × List Prop :=
 bif sg k' || (!(sg k) && decide (hi k ≤ hi k')) then (.int k' n,[lo k' ≤ n ∧ n ≤ hi k']) else (.int k' (n % md k'),[])
def sbyte (s : ByteArray) (i : Int) : Int := ((s.data.toList.getD i.toNat 0).toNat : Int)
def aggB (P : Program) (t : TypeId) : Bool :=
 match P.underlying t with
 | some (.struct _) | some (.array _ _) => true
 | some _ => false
 | none => true
def addO (off i : Nat) : Nat := match off with
 | 0 => i
 | off => off + i
def mulS (i sz : Nat) : Nat := bif Nat.beq sz 1 then i else i * sz
def pkV (a b : Operand) (c : Bool) (va vb : Value) : Value :=
 match va,vb with
 | .bool x,.bool y =>
  match a,b with
  | .const (.bool true),_ => .bool (c || y)
  | _,.const (.bool false) => .bool (c && x)
  | _,_ => .bool (bif c then x else y)
 | va,vb => bif c then va else vb
def slB (Γ : Env) (ch : Ch) (x : Option Operand) (d : Nat) : Option (Nat × List Prop) :=
 match x with
 | none => some (d,[])
 | some x => match opd Γ ch x with
  | some (.int _ i) => some (i.toNat,[0 ≤ i])
  | _ => none
def partsV (Γ : Env) (ch : Ch) : List (Nat × Operand) → Option (List (Nat × Value))
 | [] => some []
 | p :: l => match opd Γ ch p.2,partsV Γ ch l with
  | some v,some vs => some ((p.1,v) :: vs)
  | _,_ => none
def opdL (Γ : Env) (ch : Ch) : List Operand → Option (List Value)
 | [] => some []
 | x :: l => match opd Γ ch x,opdL Γ ch l with
  | some v,some vs => some (v :: vs)
  | _,_ => none
def evOp (P : Program) (S : World → Prop) (Γ : Env) (ch : Ch) (o : Oper) (raw : Bool) (orc : Option Value) : Option (Value × List Prop) :=
 match raw,orc with
 | true,some v =>
  bif o.op.operands.all (fun x => (opd Γ ch x).isSome) then some (v,[∀ w,S w → (execOp (fun x => (opd Γ ch x).getD undef) o).run P w = .ok (.value v) w]) else none
 | true,none => none
 | false,orc =>
 match o.op with
 | .move x | .assign x => (opd Γ ch x).map fun v => (v,[])
 | .pick (.tmp t) a b =>
  match look Γ ch t,opd Γ ((t,true) :: ch) a,opd Γ ((t,false) :: ch) b with
  | some (.bool c),some va,some vb => some (pkV a b c va vb,[])
  | _,_,_ => none
 | .binOp op ty x y _ =>
  match opd Γ ch x,opd Γ ch y with
  | some (.int k a),some (.int k' b) =>
   match op with
   | .shl => some ((nv k (a * ((2 ^ b.toNat : Nat) : Int))).1,[0 ≤ b ∧ b.toNat ≤ k.bits] ++ (nv k (a * ((2 ^ b.toNat : Nat) : Int))).2)
   | .shr => some (.int k (a / ((2 ^ b.toNat : Nat) : Int)),[0 ≤ b ∧ b.toNat ≤ k.bits])
   | op => bif decide (k = k') then binI op k a b else none
  | some (.string s),some (.string t) => binS op s t
  | some (.bool a),some (.bool b) =>
   match P.underlying ty,op with
   | some .bool,.eql => some (.bool (a == b),[])
   | some .bool,.neq => some (.bool (!(a == b)),[])
   | _,_ => none
  | some (.pointer a),some (.pointer none) =>
   match P.underlying ty,op with
   | some (.pointer _),.eql => some (.bool a.isNone,[])
   | some (.pointer _),.neq => some (.bool (!a.isNone),[])
   | _,_ => none
  | some (.slice a _ _),some (.slice none _ _) =>
   match P.underlying ty,op with
   | some (.slice _),.eql => some (.bool a.isNone,[])
   | some (.slice _),.neq => some (.bool (!a.isNone),[])
   | _,_ => none
  | some (.agg xs),some (.agg ys) =>
   bif P.eqGuardType P.depth ty then none else
   match op,orc with
   | .eql,some (.bool b) => some (.bool b,[∀ w,S w → (Op.equal ty (.agg xs) (.agg ys)).run P w = .ok b w])
   | .neq,some (.bool b) => some (.bool (!b),[∀ w,S w → (Op.equal ty (.agg xs) (.agg ys)).run P w = .ok b w])
   | _,_ => none
  | _,_ => none
 | .unOp .not _ x => match opd Γ ch x with | some (.bool b) => some (.bool (!b),[]) | _ => none
 | .unOp .neg _ x => match opd Γ ch x with | some (.int k n) => some (nv k (0 - n)) | _ => none
 | .unOp .xor _ x => match opd Γ ch x with | some (.int k n) => bif sg k then none else binI .xor k (hi k) n | _ => none
 | .convert src dst x =>
  match P.underlying src,P.underlying dst,opd Γ ch x,orc with
  | some _,some (.int k'),some (.int k n),none => some (cvt k k' n)
  | some (.slice e),some .string,some (.slice a n c),some v =>
   match P.underlying e with
   | some (.int .u8) => some (v,[∀ w,S w → (Conv.bytesToString (.slice a n c)).run P w = .ok v w])
   | _ => none
  | _,_,_,_ => none
 | .build t ps =>
  match partsV Γ ch ps.toList,orc with
  | some vs,some v => some (v,[∀ w,S w → (Instr.build t vs.toArray).run P w = .ok v w])
  | _,_ => none
 | .makeInterface t x => match opd Γ ch x with
  | some v => bif P.concrete t then some (.iface t v,[]) else none
  | none => none
 | .makeFunc (.func f) first caps => match opdL Γ ch first.toList,opdL Γ ch caps.toList with
  | some x,some y => some (.func (.func f) x.toArray y.toArray,[])
  | _,_ => none
 | .extract t i => match opd Γ ch t with | some (.tuple vs) => (vs[i]?).map fun v => (v,[]) | _ => none
 | .nilCheck x => match opd Γ ch x with | some (.pointer (some a)) => some (.pointer (some a),[]) | _ => none
 | .fieldAddr s x f =>
  match P.underlying s,opd Γ ch x with
  | some (.struct fs),some (.pointer (some ⟨b,off,none⟩)) =>
   match fs[f]? with
   | some fl => match P.info? fl.type with
    | some i => bif Nat.beq i.size 0 then none else some (.pointer (some ⟨b,off + fl.offset,none⟩),[])
    | none => none
   | none => none
  | _,_ => none
 | .indexAddr ty x ix =>
  match P.underlying ty,opd Γ ch x,opd Γ ch ix with
  | some (.slice e),some (.slice (some ⟨b,off,none⟩) len _),some (.int _ i) =>
   (P.info? e).map fun inf => (.pointer (some ⟨b,addO off (mulS i.toNat inf.size),none⟩),[0 ≤ i ∧ i < (len : Int)])
  | some (.array len e),some (.pointer (some ⟨b,off,none⟩)),some (.int _ i) =>
   (P.info? e).map fun inf => (.pointer (some ⟨b,addO off (mulS i.toNat inf.size),none⟩),[0 ≤ i ∧ i < (len : Int)])
  | _,_,_ => none
 | .load ty x =>
  match opd Γ ch x,orc with
  | some (.pointer (some a)),some v => bif aggB P ty then some (v,[∀ w,S w → (loadVar ty a).run P w = .ok v w]) else some (v,[∀ w,S w → w.cell? a = some v])
  | _,_ => none
 | .index ty x ix =>
  match P.underlying ty,opd Γ ch x,opd Γ ch ix,orc with
  | some .string,some (.string s),some (.int _ i),none => some (.int .u8 (sbyte s i),[0 ≤ i ∧ i < (s.size : Int)])
  | some (.array len e),some (.agg cs),some (.int _ i),some v =>
   match P.info? e with
   | some inf => bif Nat.beq inf.size 1 && !(aggB P e) then some (v,[0 ≤ i ∧ i < (len : Int),cs[i.toNat]? = some v]) else none
   | none => none
  | _,_,_,_ => none
 | .slice ty x l h none =>
  match P.underlying ty,opd Γ ch x with
  | some .string,some (.string s) =>
   match slB Γ ch l 0,slB Γ ch h s.size with
   | some (l',n1),some (h',n2) => some (.string (s.extract l' h'),n1 ++ n2 ++ [l' ≤ h' ∧ h' ≤ s.size])
   | _,_ => none
  | some (.slice e),some (.slice (some ⟨b,off,none⟩) len cap) =>
   match slB Γ ch h len,P.info? e with
   | some (h',n2),some inf =>
    match l with
    | none => some (.slice (some ⟨b,off,none⟩) h' cap,n2 ++ [h' ≤ cap])
    | some _ => match slB Γ ch l 0 with
     | some (l',n1) => some (.slice (some ⟨b,if cap = l' then off else addO off (mulS l' inf.size),none⟩) (h' - l') (cap - l'),n1 ++ n2 ++ [l' ≤ h' ∧ h' ≤ cap])
     | none => none
   | _,_ => none
  | some (.array n e),some (.pointer (some ⟨b,off,none⟩)) =>
   match slB Γ ch h n,P.info? e with
   | some (h',n2),some inf =>
    match l with
    | none => some (.slice (some ⟨b,off,none⟩) h' n,n2 ++ [h' ≤ n])
    | some _ => match slB Γ ch l 0 with
     | some (l',n1) => some (.slice (some ⟨b,if n = l' then off else addO off (mulS l' inf.size),none⟩) (h' - l') (n - l'),n1 ++ n2 ++ [l' ≤ h' ∧ h' ≤ n])
     | none => none
   | _,_ => none
  | _,_ => none
 | .call c =>
  match c with
  | ⟨.builtin .len,⟨[x]⟩,⟨[ty]⟩⟩ => match P.underlying ty,opd Γ ch x with
   | some .string,some (.string s) => some (.int .i64 (s.size : Int),[])
   | some (.slice _),some (.slice _ n _) => some (.int .i64 (n : Int),[])
   | _,_ => none
  | ⟨.builtin .cap,⟨[x]⟩,⟨[ty]⟩⟩ => match P.underlying ty,opd Γ ch x with
   | some (.slice _),some (.slice _ _ n) => some (.int .i64 (n : Int),[])
   | _,_ => none
  | _ => none
 | _ => none
section
variable {P : Program} {S : World → Prop} {n : Nat} {Γ : Env} {a : Act} {ch : Ch} {w : World}
theorem run_nv {k : IntKind} {x : Int} {v : Value} {nd : List Prop} (h : nv k x = (v,nd)) (hn : ∀ p ∈ nd,p) : Value.int k (k.wrap x) = v := by
 have h2 : (nv k x).2 = nd := by rw [h]
 have h1 : (nv k x).1 = v := by rw [h]
 rw [← h1]; exact nv_ok (by rw [h2]; exact hn)
theorem bits_back {k : IntKind} {m : Nat} (h : (m : Int) ≤ hi k) : k.wrap (m : Int) = (m : Int) := wrap_in ⟨by cases k <;> simp [lo] <;> omega,h⟩
theorem ofInt_toNat {k : IntKind} {x : Int} (h : 0 ≤ x ∧ x ≤ hi k) : (BitVec.ofInt k.bits x).toNat = x.toNat := by
 obtain ⟨h1,h2⟩ := h
 rw [BitVec.toNat_ofInt]
 congr 1
 apply Int.emod_eq_of_lt h1
 cases k <;> simp [hi,IntKind.bits] at * <;> omega
theorem toNat_lt {k : IntKind} {x : Int} (h : 0 ≤ x ∧ x ≤ hi k) : x.toNat < 2 ^ (k.bits - (if sg k then 1 else 0)) := by
 obtain ⟨h1,h2⟩ := h
 cases k <;> simp [hi,IntKind.bits,sg] at * <;> omega
theorem le_hi {k : IntKind} {m : Nat} (h : m < 2 ^ (k.bits - (if sg k then 1 else 0))) : (m : Int) ≤ hi k := by
 cases k <;> simp [hi,IntKind.bits,sg] at * <;> omega
theorem run_binI {op : BinOp} {k : IntKind} {x y : Int} {ty : TypeId} {v : Value} {nd : List Prop} (h : binI op k x y = some (v,nd)) (hn : ∀ p ∈ nd,p) :
  (binOp op ty (.int k x) (.int k y)).run P w = .ok v w := by
 cases op <;> simp only [binI,Option.some.injEq,Prod.mk.injEq,reduceCtorEq] at h
 case add => simp [binOp,Op.intArith,run_nv h hn]
 case sub => simp [binOp,Op.intArith,run_nv h hn]
 case mul => simp [binOp,Op.intArith,run_nv h hn]
 case quo =>
  obtain ⟨rfl,rfl⟩ := h
  obtain ⟨h1,h2,h3⟩ := hn _ (List.mem_cons_self ..)
  have e : x.tdiv y = x / y := Int.tdiv_eq_ediv_of_nonneg h1
  have hb : x / y ≤ x := Int.ediv_le_self _ h1
  have hb0 : 0 ≤ x / y := Int.ediv_nonneg h1 (by omega)
  have hw : k.wrap (x / y) = x / y := wrap_in ⟨by cases k <;> simp [lo] <;> omega,by omega⟩
  simp [binOp,Op.intDiv,e,hw,show ¬ y = 0 by omega]
 case rem =>
  obtain ⟨rfl,rfl⟩ := h
  obtain ⟨h1,h3⟩ := hn _ (List.mem_cons_self ..)
  simp [binOp,Op.intDiv,Int.tmod_eq_emod_of_nonneg h1,show ¬ y = 0 by omega]
 case and =>
  obtain ⟨rfl,rfl⟩ := h
  obtain ⟨h1,h2⟩ := hn _ (List.mem_cons_self ..)
  have := bits_back (k := k) (m := x.toNat &&& y.toNat) (le_hi (Nat.and_lt_two_pow _ (toNat_lt h2)))
  simp only [binOp,Op.intBits,ne_eq,not_true_eq_false,if_false,BitVec.toNat_and,ofInt_toNat h1,ofInt_toNat h2,this]; rfl
 case or =>
  obtain ⟨rfl,rfl⟩ := h
  obtain ⟨h1,h2⟩ := hn _ (List.mem_cons_self ..)
  have := bits_back (k := k) (m := x.toNat ||| y.toNat) (le_hi (Nat.or_lt_two_pow (toNat_lt h1) (toNat_lt h2)))
  simp only [binOp,Op.intBits,ne_eq,not_true_eq_false,if_false,BitVec.toNat_or,ofInt_toNat h1,ofInt_toNat h2,this]; rfl
 case xor =>
  obtain ⟨rfl,rfl⟩ := h
  obtain ⟨h1,h2⟩ := hn _ (List.mem_cons_self ..)
  have := bits_back (k := k) (m := x.toNat ^^^ y.toNat) (le_hi (Nat.xor_lt_two_pow (toNat_lt h1) (toNat_lt h2)))
  simp only [binOp,Op.intBits,ne_eq,not_true_eq_false,if_false,BitVec.toNat_xor,ofInt_toNat h1,ofInt_toNat h2,this]; rfl
 all_goals (obtain ⟨rfl,rfl⟩ := h; simp [binOp,Op.intCmp])
theorem run_binS {op : BinOp} {x y : ByteArray} {ty : TypeId} {v : Value} {nd : List Prop} (h : binS op x y = some (v,nd)) (hn : ∀ p ∈ nd,p) :
  (binOp op ty (.string x) (.string y)).run P w = .ok v w := by
 cases op <;> simp only [binS,Option.some.injEq,Prod.mk.injEq,reduceCtorEq] at h
 case add =>
  obtain ⟨rfl,rfl⟩ := h
  have h1 := hn _ (List.mem_cons_self ..)
  have h2 : ¬ ((x.size + y.size : Nat) : Int) > IntKind.i64.max := by rw [IntKind.max_i64]; omega
  simp only [binOp,Op.stringOp,h2,if_false]; rfl
 all_goals (obtain ⟨rfl,rfl⟩ := h; simp [binOp,Op.stringOp])
end
end K
end Go.Proofs.YtojefiolcedigaaGreatDoor
namespace Go.Proofs.YtojefiolcedigaaGreatDoor
namespace K
section
variable {P : Program} {S : World → Prop} {n : Nat} {D : List Deferred} {Γ : Env} {a : Act} {ch : Ch}
theorem Holds.cons {tm : Array Value} {ch : Ch} {t : Nat} {b : Bool} (h : Holds tm ch) (ht : tm.getD t undef = .bool b) : Holds tm ((t,b) :: ch) := by
 intro p hp
 rcases List.mem_cons.1 hp with rfl | hp
 ·exact ht
 ·exact h p hp
theorem pkV_true (x y : Operand) (va vb : Value) (ha : ∀ b,x = .const (.bool b) → va = .bool b) : pkV x y true va vb = va := by
 unfold pkV
 split
 ·split
  ·have := ha true rfl; simp only [Value.bool.injEq] at this; simp [this]
  ·simp
  ·simp
 ·simp
theorem pkV_false (x y : Operand) (va vb : Value) (hb : ∀ b,y = .const (.bool b) → vb = .bool b) : pkV x y false va vb = vb := by
 unfold pkV
 split
 ·split
  ·simp
  ·have := hb false rfl; simp only [Value.bool.injEq] at this; simp [this]
  ·simp
 ·simp
theorem run_underlying' {t : TypeId} {d : TypeDesc} {w : World} (h : P.underlying t = some d) : (underlying t).run P w = .ok d w := by
 simp [underlying,program,Sem.run,h]
theorem run_sizeOf' {t : TypeId} {i : TypeInfo} {w : World} (h : P.info? t = some i) : (sizeOf t).run P w = .ok i.size w := by
 simp [sizeOf,typeInfo,program,Sem.run,h]
theorem run_isAgg' {t : TypeId} {w : World} (h : aggB P t = false) : (isAgg t).run P w = .ok false w := by
 unfold aggB at h
 split at h
 ·cases h
 ·cases h
 ·rename_i d h1 h2 hd
  simp only [isAgg,Sem.run_bind,run_underlying' hd,Result.andThen_ok]
  cases d <;> simp_all
 ·cases h
theorem add_none (b off m : Nat) : Addr.add ⟨b,off,none⟩ m = ⟨b,off + m,none⟩ := Addr.add_lit b off m
theorem mulS_eq (i sz : Nat) : mulS i sz = i * sz := by
 unfold mulS
 cases h : Nat.beq sz 1 with
 | true => rw [beq_iff.1 h]; simp
 | false => simp
theorem addO_eq (off i : Nat) : addO off i = off + i := by
 unfold addO
 split <;> simp
theorem slB_ok (hs : St n D Γ a) (hc : Holds a.tmps ch) {x : Option Operand} {d m : Nat} {nd : List Prop} (h : slB Γ ch x d = some (m,nd)) (hn : ∀ p ∈ nd,p) :
  (x = none ∧ m = d) ∨ ∃ y k i,x = some y ∧ a.eval y = .int k i ∧ 0 ≤ i ∧ m = i.toNat := by
 unfold slB at h
 split at h
 ·simp only [Option.some.injEq,Prod.mk.injEq] at h; exact .inl ⟨rfl,h.1.symm⟩
 ·rename_i y
  split at h
  ·rename_i k i hy
   simp only [Option.some.injEq,Prod.mk.injEq] at h
   obtain ⟨rfl,rfl⟩ := h
   exact .inr ⟨y,k,i,rfl,opd_ok hs hc hy,hn _ (List.mem_cons_self ..),rfl⟩
  ·cases h
theorem run_sliceBound {x : Value} {y : Nat} {code : BoundsCode} {k : IntKind} {i : Int} {w : World} (hx : x = .int k i) (h0 : 0 ≤ i) (h1 : i.toNat ≤ y) : (Instr.sliceBound x y code).run P w = .ok i.toNat w := by
 subst hx
 have : 0 ≤ i ∧ i ≤ y := ⟨h0,by omega⟩
 simp [Instr.sliceBound,asIntOf,this]
theorem run_sliceBounds (hs : St n D Γ a) (hc : Holds a.tmps ch) {isSlice : Bool} {len cap l h : Nat} {lo hi : Option Operand} {n1 n2 : List Prop} {w : World}
  (hl : slB Γ ch lo 0 = some (l,n1)) (hh : slB Γ ch hi len = some (h,n2)) (hn1 : ∀ p ∈ n1,p) (hn2 : ∀ p ∈ n2,p) (h1 : l ≤ h) (h2 : h ≤ cap) :
  (Instr.sliceBounds isSlice len cap (lo.map a.eval) (hi.map a.eval) none).run P w = .ok (l,h,cap) w := by
 rcases slB_ok hs hc hl hn1 with ⟨rfl,rfl⟩ | ⟨y,k,i,rfl,hy,hi0,rfl⟩ <;> rcases slB_ok hs hc hh hn2 with ⟨rfl,rfl⟩ | ⟨y',k',i',rfl,hy',hi0',rfl⟩
 ·simp [Instr.sliceBounds]
 ·simp [Instr.sliceBounds,run_sliceBound hy' hi0' h2]
 ·simp [Instr.sliceBounds,run_sliceBound hy hi0 h1]
 ·simp [Instr.sliceBounds,run_sliceBound hy' hi0' h2,run_sliceBound hy hi0 h1]
theorem addr_if (b off l m cap : Nat) : (if cap = l then (⟨b,off,none⟩ : Addr) else Addr.add ⟨b,off,none⟩ m) = ⟨b,if cap = l then off else off + m,none⟩ := by
 split <;> simp [add_none]
theorem run_equal_bool {ty : TypeId} {x y : Bool} {w : World} (hu : P.underlying ty = some .bool) : (Op.equal ty (.bool x) (.bool y)).run P w = .ok (x == y) w := by
 show (Op.equalIn (9999 + 1) ty _ _).run P w = _
 rw [Op.equalIn]
 simp only [Sem.run_bind,run_underlying' hu,Result.andThen_ok,Sem.run_pure]
theorem run_equal_nil {ty e : TypeId} {x : Option Addr} {w : World} (hu : P.underlying ty = some (.pointer e)) : (Op.equal ty (.pointer x) (.pointer none)).run P w = .ok x.isNone w := by
 show (Op.equalIn (9999 + 1) ty _ _).run P w = _
 rw [Op.equalIn]
 cases x <;> simp only [Sem.run_bind,run_underlying' hu,Result.andThen_ok,Sem.run_pure,Option.isNone]
theorem run_bin_eql {op : BinOp} {ty : TypeId} {x y : Value} {w : World} {b : Bool} (hop : op = .eql ∨ op = .neq) (hx : (∃ c,x = .bool c) ∨ (∃ p,x = .pointer p) ∨ ∃ cs,x = .agg cs) (h : (Op.equal ty x y).run P w = .ok b w) :
  (binOp op ty x y).run P w = .ok (.bool (if op = .eql then b else !b)) w := by
 rcases hop with rfl | rfl <;> rcases hx with ⟨c,rfl⟩ | ⟨p,rfl⟩ | ⟨cs,rfl⟩ <;> simp only [binOp,Sem.run_bind,h,Result.andThen_ok,Sem.run_pure,if_true] <;> rfl
theorem eqGuard_slice (op : BinOp) (t : TypeId) (x y : Operand) (p : Option Addr) (n c : Nat) (v : Value) : eqGuard op t x y (.slice p n c) v = pure () := by cases op <;> rfl
theorem run_equal_snil {ty e : TypeId} {x : Option Addr} {n c n2 c2 : Nat} {w : World} (hu : P.underlying ty = some (.slice e)) : (Op.equal ty (.slice x n c) (.slice none n2 c2)).run P w = .ok x.isNone w := by
 show (Op.equalIn (9999 + 1) ty _ _).run P w = _
 rw [Op.equalIn]
 cases x <;> simp only [Sem.run_bind,run_underlying' hu,Result.andThen_ok,Sem.run_pure,Option.isNone]
theorem run_bin_sl {op : BinOp} {ty : TypeId} {p : Option Addr} {n1 c1 n2 c2 : Nat} {w : World} {b : Bool} (hop : op = .eql ∨ op = .neq) (h : (Op.equal ty (.slice p n1 c1) (.slice none n2 c2)).run P w = .ok b w) :
  (binOp op ty (.slice p n1 c1) (.slice none n2 c2)).run P w = .ok (.bool (if op = .eql then b else !b)) w := by
 rcases hop with rfl | rfl <;> simp only [binOp,Sem.run_bind,h,Result.andThen_ok,Sem.run_pure,if_true] <;> rfl
theorem partsV_ok (hs : St n D Γ a) (hc : Holds a.tmps ch) : ∀ {l : List (Nat × Operand)} {vs : List (Nat × Value)},partsV Γ ch l = some vs → l.map (fun p => (p.1,a.eval p.2)) = vs
 | [],vs,h => by simp only [partsV,Option.some.injEq] at h; rw [← h]; rfl
 | p :: l,vs,h => by
  unfold partsV at h
  split at h
  ·rename_i v us h1 h2
   simp only [Option.some.injEq] at h
   rw [← h,List.map_cons,opd_ok hs hc h1,partsV_ok hs hc h2]
  ·cases h
theorem opdL_ok (hs : St n D Γ a) (hc : Holds a.tmps ch) : ∀ {l : List Operand} {vs : List Value},opdL Γ ch l = some vs → l.map a.eval = vs
 | [],vs,h => by simp only [opdL,Option.some.injEq] at h; rw [← h]; rfl
 | x :: l,vs,h => by
  unfold opdL at h
  split at h
  ·rename_i v us h1 h2
   simp only [Option.some.injEq] at h
   rw [← h,List.map_cons,opd_ok hs hc h1,opdL_ok hs hc h2]
  ·cases h
theorem run_v {s : Sem Value} {v : Value} {w w' : World} (h : s.run P w = .ok v w') : (do pure (Next.value (← s)) : Sem Next).run P w = .ok (.value v) w' := by
 simp [h]
set_option maxHeartbeats 1000000 in
theorem evOp_ok {o : Oper} {raw : Bool} {orc : Option Value} {v : Value} {nd : List Prop} (hs : St n D Γ a) (hc : Holds a.tmps ch)
  (he : evOp P S Γ ch o raw orc = some (v,nd)) (hn : ∀ p ∈ nd,p) (hsel : ∀ cs b,o.op ≠ .select cs b) : Yl P S a.eval o v := by
 intro w hw
 have hO : ∀ {x : Operand} {u : Value},opd Γ ch x = some u → a.eval x = u := fun h => opd_ok hs hc h
 unfold evOp at he
 split at he
 ·
  rename_i u
  cases hb : o.op.operands.all (fun x => (opd Γ ch x).isSome) with
  | false => simp [hb] at he
  | true =>
   simp only [hb,cond_true,Option.some.injEq,Prod.mk.injEq] at he
   obtain ⟨rfl,rfl⟩ := he
   have h1 := hn _ (List.mem_cons_self ..) w hw
   rw [execOp_congr (ρ' := a.eval) o hsel (fun x hx => ?_)] at h1
   ·exact h1
   ·have := Array.all_eq_true_iff_forall_mem.1 hb x hx
    obtain ⟨y,hy⟩ := Option.isSome_iff_exists.1 this
    rw [hy,hO hy]; rfl
 ·cases he
 ·obtain ⟨dst,op,ty,pos,after,guard⟩ := o
  dsimp only at he
  split at he
  ·
   rename_i x hx
   simp only [Option.map_eq_some_iff,Prod.mk.injEq] at he
   obtain ⟨y,hy,rfl,rfl⟩ := he
   simp [execOp,hO hy]
  ·rename_i x hx
   simp only [Option.map_eq_some_iff,Prod.mk.injEq] at he
   obtain ⟨y,hy,rfl,rfl⟩ := he
   simp [execOp,hO hy]
  ·
   rename_i t x y
   split at he
   ·rename_i c va vb h1 h2 h3
    simp only [Option.some.injEq,Prod.mk.injEq] at he
    obtain ⟨rfl,rfl⟩ := he
    have hl : a.eval (.tmp t) = .bool c := look_ok hs hc h1
    have hl' : a.tmps.getD t undef = .bool c := hl
    cases c with
    | true =>
     rw [pkV_true x y va vb (fun b hb => by subst hb; simpa [opd] using h2.symm)]
     simp [execOp,hl,asBool,opd_ok hs (hc.cons hl') h2]
    | false =>
     rw [pkV_false x y va vb (fun b hb => by subst hb; simpa [opd] using h3.symm)]
     simp [execOp,hl,asBool,opd_ok hs (hc.cons hl') h3]
   ·cases he
  ·
   rename_i bop bty x y yty
   split at he
   ·rename_i k u k' u' h1 h2
    split at he
    ·simp only [Option.some.injEq,Prod.mk.injEq] at he
     obtain ⟨rfl,rfl⟩ := he
     obtain ⟨hb0,hb1⟩ := hn _ (List.mem_append_left _ (List.mem_cons_self ..))
     have hm : min u'.toNat k.bits = u'.toNat := Nat.min_eq_left hb1
     have hnv := nv_ok (k := k) (n := u * ((2 ^ u'.toNat : Nat) : Int)) (fun p hp => hn p (List.mem_append_right _ hp))
     rw [← hnv]
     simp [execOp,hO h1,hO h2,binOp,Op.shift,show ¬ u' < 0 by omega,hm,eqGuard]
    ·simp only [Option.some.injEq,Prod.mk.injEq] at he
     obtain ⟨rfl,rfl⟩ := he
     obtain ⟨hb0,hb1⟩ := hn _ (List.mem_cons_self ..)
     have hm : min u'.toNat k.bits = u'.toNat := Nat.min_eq_left hb1
     have hf : u.fdiv (2 ^ u'.toNat) = u / ((2 ^ u'.toNat : Nat) : Int) := by
      rw [Int.fdiv_eq_ediv_of_nonneg _ (Int.le_of_lt (Int.pow_pos (by decide)))]; simp
     simp [execOp,hO h1,hO h2,binOp,Op.shift,show ¬ u' < 0 by omega,hm,eqGuard,hf]
    ·rename_i hne1 hne2
     by_cases hk : k = k'
     ·subst hk
      simp only [decide_true,cond_true] at he
      have := run_binI (P := P) (w := w) (ty := bty) he hn
      simp [execOp,hO h1,hO h2,this,eqGuard_at_int]
     ·simp [hk] at he
   ·rename_i s s' h1 h2
    have := run_binS (P := P) (w := w) (ty := bty) he hn
    simp [execOp,hO h1,hO h2,this,eqGuard_at_string]
   ·rename_i u u' h1 h2
    split at he
    ·rename_i hu
     simp only [Option.some.injEq,Prod.mk.injEq] at he
     obtain ⟨rfl,rfl⟩ := he
     have := run_bin_eql (w := w) (.inl rfl) (.inl ⟨_,rfl⟩) (run_equal_bool (x := u) (y := u') (w := w) hu)
     simp only [execOp,hO h1,hO h2,eqGuard_at_bool,Sem.run_bind,Sem.run_pure,Result.andThen_ok,this]; rfl
    ·rename_i hu
     simp only [Option.some.injEq,Prod.mk.injEq] at he
     obtain ⟨rfl,rfl⟩ := he
     have := run_bin_eql (w := w) (.inr rfl) (.inl ⟨_,rfl⟩) (run_equal_bool (x := u) (y := u') (w := w) hu)
     simp only [execOp,hO h1,hO h2,eqGuard_at_bool,Sem.run_bind,Sem.run_pure,Result.andThen_ok,this]; rfl
    ·cases he
   ·rename_i u h1 h2
    split at he
    ·rename_i hu
     simp only [Option.some.injEq,Prod.mk.injEq] at he
     obtain ⟨rfl,rfl⟩ := he
     have := run_bin_eql (w := w) (.inl rfl) (.inr (.inl ⟨_,rfl⟩)) (run_equal_nil (x := u) (w := w) hu)
     simp only [execOp,hO h1,hO h2,eqGuard_at_pointer,Sem.run_bind,Sem.run_pure,Result.andThen_ok,this]; rfl
    ·rename_i hu
     simp only [Option.some.injEq,Prod.mk.injEq] at he
     obtain ⟨rfl,rfl⟩ := he
     have := run_bin_eql (w := w) (.inr rfl) (.inr (.inl ⟨_,rfl⟩)) (run_equal_nil (x := u) (w := w) hu)
     simp only [execOp,hO h1,hO h2,eqGuard_at_pointer,Sem.run_bind,Sem.run_pure,Result.andThen_ok,this]; rfl
    ·cases he
   ·rename_i u n1 c1 n2 c2 h1 h2
    split at he
    ·rename_i hu
     simp only [Option.some.injEq,Prod.mk.injEq] at he
     obtain ⟨rfl,rfl⟩ := he
     have := run_bin_sl (P := P) (w := w) (.inl rfl) (n1 := n1) (c1 := c1) (n2 := n2) (c2 := c2) (run_equal_snil (x := u) (w := w) hu)
     simp only [execOp,hO h1,hO h2,eqGuard_slice,Sem.run_bind,Sem.run_pure,Result.andThen_ok,this]; rfl
    ·rename_i hu
     simp only [Option.some.injEq,Prod.mk.injEq] at he
     obtain ⟨rfl,rfl⟩ := he
     have := run_bin_sl (P := P) (w := w) (.inr rfl) (n1 := n1) (c1 := c1) (n2 := n2) (c2 := c2) (run_equal_snil (x := u) (w := w) hu)
     simp only [execOp,hO h1,hO h2,eqGuard_slice,Sem.run_bind,Sem.run_pure,Result.andThen_ok,this]; rfl
    ·cases he
   ·rename_i xs ys h1 h2
    cases hgd : P.eqGuardType P.depth bty with
    | true => simp [hgd] at he
    | false =>
     simp only [hgd,cond_false] at he
     split at he
     ·rename_i u
      simp only [Option.some.injEq,Prod.mk.injEq] at he
      obtain ⟨rfl,rfl⟩ := he
      have h3 := hn _ (List.mem_cons_self ..) w hw
      have := run_bin_eql (w := w) (.inl rfl) (.inr (.inr ⟨_,rfl⟩)) h3
      simp only [execOp,hO h1,hO h2,Sem.run_bind,run_eqGuard_agg (P := P) w _ bty x y xs ys hgd,Result.andThen_ok,this,Sem.run_pure]; rfl
     ·rename_i u
      simp only [Option.some.injEq,Prod.mk.injEq] at he
      obtain ⟨rfl,rfl⟩ := he
      have h3 := hn _ (List.mem_cons_self ..) w hw
      have := run_bin_eql (w := w) (.inr rfl) (.inr (.inr ⟨_,rfl⟩)) h3
      simp only [execOp,hO h1,hO h2,Sem.run_bind,run_eqGuard_agg (P := P) w _ bty x y xs ys hgd,Result.andThen_ok,this,Sem.run_pure]; rfl
     ·cases he
   ·cases he
  ·
   split at he
   ·rename_i b h1
    simp only [Option.some.injEq,Prod.mk.injEq] at he
    obtain ⟨rfl,rfl⟩ := he
    simp [execOp,hO h1,Op.unary]
   ·cases he
  ·
   split at he
   ·rename_i k m h1
    simp only [Option.some.injEq] at he
    have := run_nv he hn
    simp [execOp,hO h1,Op.unary,Op.intArith] at *
    exact this
   ·cases he
  ·
   split at he
   ·rename_i k m h1
    cases hk : sg k with
    | true => simp [hk] at he
    | false =>
     simp only [hk,cond_false] at he
     have := run_binI (P := P) (w := w) (ty := 0) he hn
     have h2 : k.signed = false := by cases k <;> first | rfl | cases hk
     have h3 : k.max = hi k := by cases k <;> first | rfl | cases hk
     have h4 : (Op.unary .xor (.int k m)).run P w = (binOp .xor 0 (.int k (hi k)) (.int k m)).run P w := by
      rw [← h3]; simp [Op.unary,h2,binOp]
     simp [execOp,hO h1,h4,this]
   ·cases he
  ·
   rename_i src dst x
   split at he
   ·rename_i d0 k' k m h0 h1 h2
    simp only [Option.some.injEq] at he
    have hw' : Value.int k' (k'.wrap m) = v := by
     unfold cvt at he
     cases hb : (sg k' || (!(sg k) && decide (hi k ≤ hi k'))) with
     | true =>
      simp only [hb,cond_true,Prod.mk.injEq] at he
      obtain ⟨rfl,rfl⟩ := he
      rw [wrap_in (hn _ (List.mem_cons_self ..))]
     | false =>
      simp only [hb,cond_false,Prod.mk.injEq] at he
      obtain ⟨rfl,rfl⟩ := he
      simp only [Bool.or_eq_false_iff] at hb
      rw [wrap_un hb.1]
    simp [execOp,hO h2,convert,run_underlying' h0,run_underlying' h1,Conv.intToInt,hw']
   ·rename_i e x' n' c' u h0 h1 h2
    split at he
    ·rename_i h3
     simp only [Option.some.injEq,Prod.mk.injEq] at he
     obtain ⟨rfl,rfl⟩ := he
     have := hn _ (List.mem_cons_self ..) w hw
     simp [execOp,hO h2,run_convert_bytes_string w src dst e x' n' c' h0 h3 h1,this]
    ·cases he
   ·cases he
  ·
   rename_i t ps
   split at he
   ·rename_i vs u h1
    simp only [Option.some.injEq,Prod.mk.injEq] at he
    obtain ⟨rfl,rfl⟩ := he
    have h2 := hn _ (List.mem_cons_self ..) w hw
    have h3 := partsV_ok hs hc h1
    have h4 : (ps.map fun x => match x with | (i,x) => (i,a.eval x)) = vs.toArray := by
     apply Array.ext'
     rw [← h3]; simp
    simp only [execOp]
    rw [h4]
    exact run_v h2
   ·cases he
  ·
   rename_i t x
   split at he
   ·rename_i u h1
    cases hc' : P.concrete t with
    | false => simp [hc'] at he
    | true =>
     simp only [hc',cond_true,Option.some.injEq,Prod.mk.injEq] at he
     obtain ⟨rfl,rfl⟩ := he
     simp [execOp,hO h1,run_makeInterface (h := hc')]
   ·cases he
  ·
   rename_i f first caps
   split at he
   ·rename_i x y h1 h2
    simp only [Option.some.injEq,Prod.mk.injEq] at he
    obtain ⟨rfl,rfl⟩ := he
    have e1 : first.map a.eval = x.toArray := by
     apply Array.ext'
     simpa using opdL_ok hs hc h1
    have e2 : caps.map a.eval = y.toArray := by
     apply Array.ext'
     simpa using opdL_ok hs hc h2
    simp [execOp,Instr.makeFunc,e1,e2]
   ·cases he
  ·
   rename_i t i
   split at he
   ·rename_i vs h1
    simp only [Option.map_eq_some_iff,Prod.mk.injEq] at he
    obtain ⟨y,hy,rfl,rfl⟩ := he
    simp [execOp,hO h1,Instr.extract,hy]
   ·cases he
  ·
   split at he
   ·rename_i p h1
    simp only [Option.some.injEq,Prod.mk.injEq] at he
    obtain ⟨rfl,rfl⟩ := he
    simp [execOp,hO h1]
   ·cases he
  ·
   rename_i s x f
   split at he
   ·rename_i fs b off h1 h2
    split at he
    ·rename_i fl hf
     split at he
     ·rename_i inf hinf
      cases hz : Nat.beq inf.size 0 with
      | true => simp [hz] at he
      | false =>
       simp only [hz,cond_false,Option.some.injEq,Prod.mk.injEq] at he
       obtain ⟨rfl,rfl⟩ := he
       have hz' : ¬ inf.size = 0 := fun hh => by rw [beq_iff.2 hh] at hz; cases hz
       simp [execOp,hO h2,Instr.fieldAt,run_underlying' h1,hf,Instr.sureAddr,fieldPlace,run_sizeOf' hinf,hz',add_none]
     ·cases he
    ·cases he
   ·cases he
  ·
   rename_i ty' x ix
   split at he
   ·rename_i e b off len cap k i h1 h2 h3
    simp only [Option.map_eq_some_iff,Prod.mk.injEq] at he
    obtain ⟨inf,hinf,rfl,rfl⟩ := he
    have hb := hn _ (List.mem_cons_self ..)
    simp [execOp,hO h2,hO h3,Instr.indexAt,asIntOf,run_underlying' h1,hb,run_sizeOf' hinf,add_none,addO_eq,mulS_eq]
   ·rename_i len e b off k i h1 h2 h3
    simp only [Option.map_eq_some_iff,Prod.mk.injEq] at he
    obtain ⟨inf,hinf,rfl,rfl⟩ := he
    have hb := hn _ (List.mem_cons_self ..)
    simp [execOp,hO h2,hO h3,Instr.indexAt,asIntOf,run_underlying' h1,hb,run_sizeOf' hinf,add_none,addO_eq,mulS_eq,Instr.sureAddr]
   ·cases he
  ·
   rename_i ty' x
   split at he
   ·rename_i p u h1
    cases hg : aggB P ty' with
    | true =>
     simp only [hg,cond_true,Option.some.injEq,Prod.mk.injEq] at he
     obtain ⟨rfl,rfl⟩ := he
     have := hn _ (List.mem_cons_self ..) w hw
     simp [execOp,hO h1,Instr.loadAt,Instr.sureAddr,this]
    | false =>
     simp only [hg,cond_false,Option.some.injEq,Prod.mk.injEq] at he
     obtain ⟨rfl,rfl⟩ := he
     have := hn _ (List.mem_cons_self ..) w hw
     simp [execOp,hO h1,Instr.loadAt,Instr.sureAddr,loadVar,run_isAgg' hg,load,Sem.run,this]
   ·cases he
  ·
   rename_i ty' x ix
   split at he
   ·rename_i s k i h1 h2 h3
    simp only [Option.some.injEq,Prod.mk.injEq] at he
    obtain ⟨rfl,rfl⟩ := he
    obtain ⟨hb0,hb1⟩ := hn _ (List.mem_cons_self ..)
    have hlt : i.toNat < s.size := by omega
    have hg : s[i.toNat]? = some s[i.toNat] := getElem?_pos s i.toNat hlt
    have hv : s.data[i.toNat]?.getD 0 = s[i.toNat] := by
     have : s.data[i.toNat]? = some (s.data[i.toNat]'hlt) := getElem?_pos s.data i.toNat hlt
     rw [this]; rfl
    simp [execOp,hO h2,hO h3,Instr.index,asIntOf,run_underlying' h1,hb0,hg,sbyte,hv]
   ·rename_i len e cs k i u h1 h2 h3
    split at he
    ·rename_i inf hinf
     cases hg : (Nat.beq inf.size 1 && !(aggB P e)) with
     | false => simp [hg] at he
     | true =>
      simp only [hg,cond_true,Option.some.injEq,Prod.mk.injEq] at he
      obtain ⟨rfl,rfl⟩ := he
      have hb := hn _ (List.mem_cons_self ..)
      have hc' := hn _ (List.mem_cons_of_mem _ (List.mem_cons_self ..))
      simp only [Bool.and_eq_true,beq_iff,Bool.not_eq_true'] at hg
      simp [execOp,hO h2,hO h3,Instr.index,asIntOf,run_underlying' h1,hb,run_sizeOf' hinf,hg.1,part,run_isAgg' hg.2,hc']
    ·cases he
   ·cases he
  ·
   rename_i ty' x l h
   split at he
   ·rename_i s h1 h2
    split at he
    ·rename_i l' n1 h' n2 hl hh
     simp only [Option.some.injEq,Prod.mk.injEq] at he
     obtain ⟨rfl,rfl⟩ := he
     obtain ⟨hb1,hb2⟩ := hn _ (List.mem_append_right _ (List.mem_cons_self ..))
     have := run_sliceBounds (P := P) (w := w) (isSlice := false) (cap := s.size) hs hc hl hh (fun p hp => hn p (List.mem_append_left _ (List.mem_append_left _ hp))) (fun p hp => hn p (List.mem_append_left _ (List.mem_append_right _ hp))) hb1 hb2
     simp [execOp,hO h2,Instr.sliceAt,Instr.slice,run_underlying' h1,this]
    ·cases he
   ·rename_i e b off len cap h1 h2
    split at he
    ·rename_i h' n2 inf hh hinf
     split at he
     ·simp only [Option.some.injEq,Prod.mk.injEq] at he
      obtain ⟨rfl,rfl⟩ := he
      have hb2 := hn _ (List.mem_append_right _ (List.mem_cons_self ..))
      have := run_sliceBounds (P := P) (w := w) (isSlice := true) (cap := cap) (lo := none) (l := 0) hs hc rfl hh (fun p hp => by cases hp) (fun p hp => hn p (List.mem_append_left _ hp)) (Nat.zero_le _) hb2
      simp at this
      simp [execOp,hO h2,Instr.sliceAt,Instr.slice,run_underlying' h1,this,run_sizeOf' hinf,Addr.add]
     ·rename_i lx
      split at he
      ·rename_i l' n1 hl
       simp only [Option.some.injEq,Prod.mk.injEq] at he
       obtain ⟨rfl,rfl⟩ := he
       obtain ⟨hb1,hb2⟩ := hn _ (List.mem_append_right _ (List.mem_cons_self ..))
       have := run_sliceBounds (P := P) (w := w) (isSlice := true) (cap := cap) hs hc hl hh (fun p hp => hn p (List.mem_append_left _ (List.mem_append_left _ hp))) (fun p hp => hn p (List.mem_append_left _ (List.mem_append_right _ hp))) hb1 hb2
       simp at this
       simp [execOp,hO h2,Instr.sliceAt,Instr.slice,run_underlying' h1,this,run_sizeOf' hinf,add_none,addO_eq,mulS_eq]
       split <;> rfl
      ·cases he
    ·cases he
   ·rename_i len e b off h1 h2
    split at he
    ·rename_i h' n2 inf hh hinf
     split at he
     ·simp only [Option.some.injEq,Prod.mk.injEq] at he
      obtain ⟨rfl,rfl⟩ := he
      have hb2 := hn _ (List.mem_append_right _ (List.mem_cons_self ..))
      have := run_sliceBounds (P := P) (w := w) (isSlice := false) (cap := len) (lo := none) (l := 0) hs hc rfl hh (fun p hp => by cases hp) (fun p hp => hn p (List.mem_append_left _ hp)) (Nat.zero_le _) hb2
      simp at this
      simp [execOp,hO h2,Instr.sliceAt,Instr.sureAddr,run_underlying' h1,this,run_sizeOf' hinf,Addr.add]
     ·rename_i lx
      split at he
      ·rename_i l' n1 hl
       simp only [Option.some.injEq,Prod.mk.injEq] at he
       obtain ⟨rfl,rfl⟩ := he
       obtain ⟨hb1,hb2⟩ := hn _ (List.mem_append_right _ (List.mem_cons_self ..))
       have := run_sliceBounds (P := P) (w := w) (isSlice := false) (cap := len) hs hc hl hh (fun p hp => hn p (List.mem_append_left _ (List.mem_append_left _ hp))) (fun p hp => hn p (List.mem_append_left _ (List.mem_append_right _ hp))) hb1 hb2
       simp at this
       simp [execOp,hO h2,Instr.sliceAt,Instr.sureAddr,run_underlying' h1,this,run_sizeOf' hinf,add_none,addO_eq,mulS_eq]
       split <;> rfl
      ·cases he
    ·cases he
   ·cases he
  ·
   rename_i c
   split at he
   ·rename_i x ty'
    split at he
    ·rename_i s h1 h2
     simp only [Option.some.injEq,Prod.mk.injEq] at he
     obtain ⟨rfl,rfl⟩ := he
     simp [execOp,resolve,invoke,builtin,Builtin.len_,hO h2,run_underlying' h1,goInt]
    ·rename_i h1 h2
     simp only [Option.some.injEq,Prod.mk.injEq] at he
     obtain ⟨rfl,rfl⟩ := he
     simp [execOp,resolve,invoke,builtin,Builtin.len_,hO h2,run_underlying' h1,goInt]
    ·cases he
   ·rename_i x ty'
    split at he
    ·rename_i h1 h2
     simp only [Option.some.injEq,Prod.mk.injEq] at he
     obtain ⟨rfl,rfl⟩ := he
     simp [execOp,resolve,invoke,builtin,Builtin.cap_,hO h2,run_underlying' h1,goInt]
    ·cases he
   ·cases he
  ·cases he
end
end K
end Go.Proofs.YtojefiolcedigaaGreatDoor
namespace Go.Proofs.YtojefiolcedigaaGreatDoor
namespace K
abbrev Dir := Nat × Bool × Option Value
def dZ : Dir := (0,false,Option.none)
def tF (a b : Nat) : Array Bool := (List.replicate a true ++ List.replicate b false).toArray
def chainP (Γ : Env) : Ch → Prop → Prop
 | [],q => q
 | (t,b) :: ch,q => match find Γ t with
  | some e => e.2 = .bool b → chainP Γ ch q
  | none => chainP Γ ch q
def step1 (P : Program) (S : World → Prop) (n : Nat) (ops : Array Oper) (Γ : Env) (o : Oper) (d : Dir) : Option (Env × List Prop) :=
 match o.dst with
 | none => none
 | some t =>
  bif Nat.blt t n then
   match o.guard with
   | none => (evOp P S Γ [] o d.2.1 d.2.2).map fun r => (put Γ t [] r.1,r.2)
   | some (j,want) =>
    match (ops[j]?).bind (·.dst) with
    | none => none
    | some tj => match find Γ tj with
     | none => none
     | some e => match d.1 with
      | 1 => bif e.1.isEmpty then (evOp P S Γ [] o d.2.1 d.2.2).map fun r => (put Γ t [] r.1,(e.2 = .bool want) :: r.2) else none
      | 2 => bif e.1.isEmpty then some (put Γ t [] undef,[e.2 ≠ .bool want]) else none
      | _ => bif ((tj,want) :: e.1).any (fun p => Nat.beq p.1 t) then none else
        (evOp P S Γ ((tj,want) :: e.1) o d.2.1 d.2.2).map fun r => (put Γ t ((tj,want) :: e.1) r.1,r.2.map (chainP Γ ((tj,want) :: e.1)))
  else none
def evOps (P : Program) (S : World → Prop) (n : Nat) (ops : Array Oper) : List Oper → List Dir → Env → Option (Env × List Prop)
 | [],_,Γ => some (Γ,[])
 | o :: l,ds,Γ =>
  match step1 P S n ops Γ o (ds.headD dZ) with
  | some (Γ1,n1) => match evOps P S n ops l ds.tail Γ1 with
   | some (Γ2,n2) => some (Γ2,n1 ++ n2)
   | none => none
  | none => none
section
variable {P : Program} {S : World → Prop} {n : Nat} {D : List Deferred} {Γ : Env} {a : Act} {ops : Array Oper}
theorem get_of_getD {tm : Array Value} {t : Nat} {b : Bool} (h : tm.getD t undef = .bool b) : tm[t]? = some (.bool b) := by
 rw [Array.getD_eq_getD_getElem?] at h
 cases hh : tm[t]? with
 | none => rw [hh] at h; simp [undef] at h
 | some x => rw [hh] at h; simp at h; rw [h]
theorem wanted_iff {o : Oper} {j : Nat} {want : Bool} {tj : Nat} {tm : Array Value} (hg : o.guard = some (j,want)) (hj : (ops[j]?).bind (·.dst) = some tj) :
  Region.wanted o (yielded ops tm) = true ↔ tm.getD tj undef = .bool want := by
 simp only [Region.wanted,hg,yielded,hj,Option.bind_some,beq_iff_eq]
 constructor
 ·intro h
  split at h
  ·rename_i b hb
   simp only [Option.some.injEq] at h
   rw [Array.getD_eq_getD_getElem?,hb,h]; rfl
  ·cases h
 ·intro h
  rw [get_of_getD h]
theorem chainP_ok (hs : St n D Γ a) {ch : Ch} (hc : Holds a.tmps ch) {q : Prop} (h : chainP Γ ch q) : q := by
 induction ch with
 | nil => exact h
 | cons p ch ih =>
  obtain ⟨t,b⟩ := p
  have hc' : Holds a.tmps ch := fun p hp => hc p (List.mem_cons_of_mem _ hp)
  unfold chainP at h
  split at h
  ·rename_i e he
   refine ih hc' (h ?_)
   have hsl := hs.sl _ (find_mem he)
   have ht := hc (t,b) (List.mem_cons_self ..)
   by_cases hh : Holds a.tmps e.1
   ·rw [← hsl.1 hh]; exact ht
   ·rw [hsl.2 hh] at ht; simp [undef] at ht
  ·exact ih hc' h
theorem step1_ok {o : Oper} {d : Dir} {Γ' : Env} {nd : List Prop} (hs : St n D Γ a) (hsel : ∀ cs b,o.op ≠ .select cs b) (h : step1 P S n ops Γ o d = some (Γ',nd)) (hn : ∀ p ∈ nd,p) :
  ∃ u,YieldsIf P ops S o u a ∧ St n D Γ' (a.put o.dst u) := by
 unfold step1 at h
 split at h
 ·cases h
 ·rename_i t ht
  cases hlt : Nat.blt t n with
  | false => simp [hlt] at h
  | true =>
  have hlt' : t < n := Nat.lt_of_succ_le (Nat.le_of_ble_eq_true hlt)
  rw [ht]
  simp only [hlt,cond_true] at h
  split at h
  ·rename_i hg
   simp only [Option.map_eq_some_iff,Prod.mk.injEq] at h
   obtain ⟨⟨v,nd'⟩,he,rfl,rfl⟩ := h
   refine ⟨v,.inl ⟨by simp [Region.wanted,hg],evOp_ok hs (holds_nil _) he hn hsel⟩,put_ok hs hlt' rfl (fun _ => rfl) (fun hh => absurd (holds_nil _) hh)⟩
  ·rename_i j want hg
   split at h
   ·cases h
   ·rename_i tj hj
    split at h
    ·cases h
    ·rename_i e hf
     have hsl := hs.sl _ (find_mem hf)
     split at h
     ·cases hem : e.1.isEmpty with
      | false => simp [hem] at h
      | true =>
       have hem' : e.1 = [] := List.isEmpty_iff.1 hem
       simp only [hem,cond_true,Option.map_eq_some_iff,Prod.mk.injEq] at h
       obtain ⟨⟨v,nd'⟩,he,rfl,rfl⟩ := h
       have hw : e.2 = .bool want := hn _ (List.mem_cons_self ..)
       have hslot := hsl.1 (by rw [hem']; exact holds_nil _)
       refine ⟨v,.inl ⟨(wanted_iff hg hj).2 (hslot.trans hw),evOp_ok hs (holds_nil _) he (fun p hp => hn p (List.mem_cons_of_mem _ hp)) hsel⟩,put_ok hs hlt' rfl (fun _ => rfl) (fun hh => absurd (holds_nil _) hh)⟩
     ·cases hem : e.1.isEmpty with
      | false => simp [hem] at h
      | true =>
       have hem' : e.1 = [] := List.isEmpty_iff.1 hem
       simp only [hem,cond_true,Option.some.injEq,Prod.mk.injEq] at h
       obtain ⟨rfl,rfl⟩ := h
       have hw : e.2 ≠ .bool want := hn _ (List.mem_cons_self ..)
       have hslot := hsl.1 (by rw [hem']; exact holds_nil _)
       refine ⟨undef,.inr ⟨?_,rfl⟩,put_ok hs hlt' rfl (fun _ => rfl) (fun hh => absurd (holds_nil _) hh)⟩
       cases hb : Region.wanted o (yielded ops a.tmps) with
       | false => rfl
       | true => exact absurd (hslot.symm.trans ((wanted_iff hg hj).1 hb)) hw
     ·cases hany : ((tj,want) :: e.1).any (fun p => Nat.beq p.1 t) with
      | true => simp only [hany,cond_true] at h; cases h
      | false =>
       simp only [hany,cond_false,Option.map_eq_some_iff,Prod.mk.injEq] at h
       obtain ⟨⟨v,nd'⟩,he,rfl,rfl⟩ := h
       by_cases hh : Holds a.tmps ((tj,want) :: e.1)
       ·refine ⟨v,.inl ⟨(wanted_iff hg hj).2 (hh (tj,want) (List.mem_cons_self ..)),evOp_ok hs hh he (fun p hp => ?_) hsel⟩,put_ok hs hlt' hany (fun _ => rfl) (fun h' => absurd hh h')⟩
        exact chainP_ok hs hh (hn _ (List.mem_map.2 ⟨p,hp,rfl⟩))
       ·refine ⟨undef,.inr ⟨?_,rfl⟩,put_ok hs hlt' hany (fun h' => absurd h' hh) (fun _ => rfl)⟩
        cases hb : Region.wanted o (yielded ops a.tmps) with
        | false => rfl
        | true =>
         have hslot := (wanted_iff hg hj).1 hb
         exfalso
         by_cases h' : Holds a.tmps e.1
         ·exact hh (h'.cons hslot)
         ·rw [hsl.2 h'] at hslot; simp [undef] at hslot
variable {Q : Exit → Act → World → Prop} {w : World}
def fen (ro : Option Nat) : Fence := { Fence.wide with round := ro }
theorem semAt_run {ro : Option Nat} {ev : Operand → Value} {o : Oper} {x : Next} {w' : World} (h : (execOp ev o).run P w = .ok x w') (hx : ∀ d,x ≠ .defer d) : (o.semAt ro ev).run P w = .ok x w' := by
 rw [Oper.semAt_eq]
 ·exact h
 ·intro c hc
  obtain ⟨dst,op,oty,pos,after,guard⟩ := o
  simp only at hc
  subst hc
  simp only [execOp,Sem.run_bind] at h
  cases hr : (resolve ev c oty).run P w with
  | ok d w1 =>
   simp only [hr,Result.andThen_ok,Sem.run_pure,Result.ok.injEq] at h
   exact hx d h.1.symm
  | halt z w1 => simp [hr] at h
theorem wplIn_pure {ro : Option Nat} {l2 : List Oper} : ∀ (l : List Oper) (ds : List Dir) (Γ : Env) (a : Act) {Γ' : Env} {nd : List Prop},(∀ o ∈ l,∀ cs b,o.op ≠ .select cs b) → St n D Γ a →
  evOps P S n ops l ds Γ = some (Γ',nd) → (∀ p ∈ nd,p) → S w → (∀ a',St n D Γ' a' → wpListIn (fen ro) 0 P ops Q l2 a' w) → wpListIn (fen ro) 0 P ops Q (l ++ l2) a w
 | [],_,Γ,a,Γ',nd,_,hs,he,_,_,h => by
  simp only [evOps,Option.some.injEq,Prod.mk.injEq] at he
  exact h a (he.1 ▸ hs)
 | o :: l,ds,Γ,a,Γ',nd,hsel,hs,he,hn,hS,h => by
  unfold evOps at he
  split at he
  ·rename_i Γ1 n1 h1
   split at he
   ·rename_i Γ2 n2 h2
    simp only [Option.some.injEq,Prod.mk.injEq] at he
    obtain ⟨rfl,rfl⟩ := he
    obtain ⟨u,hy,hs'⟩ := step1_ok (P := P) (S := S) hs (hsel o (List.mem_cons_self ..)) h1 (fun p hp => hn p (List.mem_append_left _ hp))
    have ih := wplIn_pure l ds.tail Γ1 (a.put o.dst u) (fun o ho => hsel o (List.mem_cons_of_mem _ ho)) hs' h2 (fun p hp => hn p (List.mem_append_right _ hp)) hS h
    show wpListIn (fen ro) 0 P ops Q (o :: (l ++ l2)) a w
    unfold wpListIn
    rcases hy with ⟨hw,hv⟩ | ⟨hw,rfl⟩
    ·rw [if_pos hw]
     refine ⟨fun _ _ => trivial,?_⟩
     rw [semAt_run (hv w hS) (fun d hd => by cases hd)]
     exact ih
    ·rw [hw]; exact ⟨fun _ _ => trivial,ih⟩
   ·cases he
  ·cases he
def takes (md : Region.Mode) (ops : Array Oper) : Array Bool → List Nat → Option (Array Bool)
 | l,[] => some l
 | l,i :: is => bif Region.free md ops l i && (Region.ready md ops l).contains i then takes md ops (l.setIfInBounds i true) is else none
def opsAt (ops : Array Oper) : List Nat → Option (List Oper)
 | [] => some []
 | i :: is => match ops[i]?,opsAt ops is with
  | some o,some l => some (o :: l)
  | _,_ => none
def PanicOk (Q : Exit → Act → World → Prop) : Prop := ∀ c a w d v,Q (.panic c) (a.put d v) w → Q (.panic c) a w
theorem any_pure (hsel : Region.noSelect ops = true) (hQ : PanicOk Q) {fuel : Nat} {l' : Array Bool} : ∀ (is : List Nat) (os : List Oper) (ds : List Dir) (l : Array Bool) (Γ : Env) (a : Act) {Γ' : Env} {nd : List Prop},
  takes .any ops l is = some l' → opsAt ops is = some os → St n D Γ a → evOps P S n ops os ds Γ = some (Γ',nd) → (∀ p ∈ nd,p) → S w →
  (∀ a',St n D Γ' a' → wpAnyH P .any ops Q S fuel l' a' w) → wpAnyH P .any ops Q S (fuel + is.length) l a w
 | [],os,ds,l,Γ,a,Γ',nd,ht,ho,hs,he,_,_,h => by
  simp only [takes,Option.some.injEq] at ht
  simp only [opsAt,Option.some.injEq] at ho
  subst ht; subst ho
  simp only [evOps,Option.some.injEq,Prod.mk.injEq] at he
  exact h a (he.1 ▸ hs)
 | i :: is,os,ds,l,Γ,a,Γ',nd,ht,ho,hs,he,hn,hS,h => by
  unfold takes at ht
  unfold opsAt at ho
  split at ho
  ·rename_i o os' hi hos
   simp only [Option.some.injEq] at ho
   subst ho
   cases hb : (Region.free .any ops l i && (Region.ready .any ops l).contains i) with
   | false => simp only [hb,cond_false] at ht; cases ht
   | true =>
    simp only [hb,cond_true] at ht
    simp only [Bool.and_eq_true] at hb
    unfold evOps at he
    split at he
    ·rename_i Γ1 n1 h1
     split at he
     ·rename_i Γ2 n2 h2
      simp only [Option.some.injEq,Prod.mk.injEq] at he
      obtain ⟨rfl,rfl⟩ := he
      obtain ⟨u,hy,hs'⟩ := step1_ok (P := P) (S := S) hs (Region.noSelect_spec hsel i o · · hi) h1 (fun p hp => hn p (List.mem_append_left _ hp))
      have ih := any_pure hsel hQ is os' ds.tail _ Γ1 (a.put o.dst u) ht hos hs' h2 (fun p hp => hn p (List.mem_append_right _ hp)) hS h
      exact wpAnyH_take hi hsel hb.1 hb.2 (fun c a w hq => hQ c a w _ _ hq) hy hS ih
     ·cases he
    ·cases he
  ·cases ho
end
end K
end Go.Proofs.YtojefiolcedigaaGreatDoor
namespace Go.Proofs.YtojefiolcedigaaGreatDoor
namespace K
structure Ext (M : List Nat) (w w' : World) : Prop where
 os : w'.os = w.os
 tape : w'.tape = w.tape
 output : w'.output = w.output
 size : w.heap.size ≤ w'.heap.size
 block : ∀ k,k < w.heap.size → k ∉ M → w'.heap[k]? = w.heap[k]?
theorem Ext.refl (M : List Nat) (w : World) : Ext M w w := ⟨rfl,rfl,rfl,Nat.le_refl _,fun _ _ _ => rfl⟩
theorem Ext.trans {M M' : List Nat} {w w1 w2 : World} (h : Ext M w w1) (h' : Ext M' w1 w2) (hM : ∀ k ∈ M',k < w.heap.size → k ∈ M) : Ext M w w2 :=
 ⟨h'.os.trans h.os,h'.tape.trans h.tape,h'.output.trans h.output,Nat.le_trans h.size h'.size,fun k hk hn =>
  (h'.block k (Nat.lt_of_lt_of_le hk h.size) (fun hm => hn (hM k hm hk))).trans (h.block k hk hn)⟩
theorem Ext.mono {M M' : List Nat} {w w' : World} (h : Ext M w w') (hM : ∀ k ∈ M,k ∈ M') : Ext M' w w' :=
 ⟨h.os,h.tape,h.output,h.size,fun k hk hn => h.block k hk (fun hm => hn (hM k hm))⟩
theorem Ext.nil {M : List Nat} {w w' : World} (h : Ext [] w w') : Ext M w w' := h.mono (fun _ hk => by cases hk)
theorem Ext.below {w w' : World} (h : Ext [] w w') : RowKit.Below w.heap.size w w' := ⟨h.os,h.tape,h.output,h.size,fun k hk => h.block k hk (by simp)⟩
structure HP (w0 : World) (M : List Nat) (R O : List (Nat × Obj)) (w : World) : Prop where
 ext : Ext M w0 w
 ro : ∀ e ∈ R,w.heap[e.1]? = some e.2
 rod : ∀ e ∈ R,e.1 < w0.heap.size ∧ e.1 ∉ M
 own : ∀ e ∈ O,w.heap[e.1]? = some e.2
 dist : (O.map (·.1)).Nodup
 mine : ∀ e ∈ O,w0.heap.size ≤ e.1 ∨ e.1 ∈ M
section
variable {w0 w w' : World} {M : List Nat} {R O : List (Nat × Obj)}
theorem lt_of_get {b : Nat} {o : Obj} (h : w.heap[b]? = some o) : b < w.heap.size := by
 rcases Nat.lt_or_ge b w.heap.size with hh | hh
 ·exact hh
 ·rw [Array.getElem?_eq_none hh] at h; cases h
theorem HP.call (h : HP w0 M R O w) {M' : List Nat} (hx : Ext M' w w') (O' : List (Nat × Obj)) (hO : O'.Sublist O) (hM : ∀ k ∈ M',k ∈ O.map (·.1)) (hd : ∀ e ∈ O',e.1 ∉ M') : HP w0 M R O' w' := by
 have hM0 : ∀ k ∈ M',k < w0.heap.size → k ∈ M := by
  intro k hk hlt
  obtain ⟨e,he,rfl⟩ := List.mem_map.1 (hM k hk)
  rcases h.mine e he with h1 | h1
  ·omega
  ·exact h1
 refine ⟨h.ext.trans hx hM0,fun e he => ?_,h.rod,fun e he => ?_,?_,fun e he => h.mine e (hO.subset he)⟩
 ·have hr := h.ro e he
  rw [hx.block e.1 (lt_of_get hr) (fun hm => (h.rod e he).2 (hM0 _ hm (h.rod e he).1))]; exact hr
 ·have ho := h.own e (hO.subset he)
  rw [hx.block e.1 (lt_of_get ho) (hd e he)]; exact ho
 ·exact h.dist.sublist (hO.map _)
theorem HP.calm (h : HP w0 M R O w) (hx : Ext [] w w') : HP w0 M R O w' := h.call hx O (List.Sublist.refl _) (fun _ hk => by cases hk) (fun _ _ => by simp)
theorem HP.add (h : HP w0 M R O w) {b : Nat} {o : Obj} (hb : w.heap[b]? = some o) (hn : b ∉ O.map (·.1)) (hm : w0.heap.size ≤ b ∨ b ∈ M) : HP w0 M R ((b,o) :: O) w :=
 ⟨h.ext,h.ro,h.rod,fun e he => by
  rcases List.mem_cons.1 he with rfl | he
  ·exact hb
  ·exact h.own e he,by simp only [List.map_cons]; exact List.nodup_cons.2 ⟨hn,h.dist⟩,fun e he => by
  rcases List.mem_cons.1 he with rfl | he
  ·exact hm
  ·exact h.mine e he⟩
theorem HP.fresh (h : HP w0 M R O w) {b : Nat} (hb : w.heap.size ≤ b) : b ∉ O.map (·.1) := by
 intro hm
 obtain ⟨e,he,rfl⟩ := List.mem_map.1 hm
 have := lt_of_get (h.own e he)
 omega
theorem HP.sub (h : HP w0 M R O w) {O' : List (Nat × Obj)} (hO : O'.Sublist O) : HP w0 M R O' w :=
 ⟨h.ext,h.ro,h.rod,fun e he => h.own e (hO.subset he),h.dist.sublist (hO.map _),fun e he => h.mine e (hO.subset he)⟩
theorem ext_drew (w : World) : Ext [] w { w with drawn := w.drawn + 1 } := ⟨rfl,rfl,rfl,Nat.le_refl _,fun _ _ _ => rfl⟩
theorem ext_alloc (w : World) (o : Obj) : Ext [] w (w.alloc o) :=
 ⟨rfl,rfl,rfl,by show w.heap.size ≤ (w.heap.push o).size; simp,fun k hk _ => by
  show (w.heap.push o)[k]? = w.heap[k]?
  rw [Array.getElem?_push,if_neg (by omega)]⟩
theorem get_alloc (w : World) (o : Obj) : (w.alloc o).heap[w.heap.size]? = some o := by
 show (w.heap.push o)[w.heap.size]? = some o
 simp
theorem HP.drew (h : HP w0 M R O w) : HP w0 M R O { w with drawn := w.drawn + 1 } := h.calm (ext_drew w)
theorem HP.alloc (h : HP w0 M R O w) (o : Obj) : HP w0 M R ((w.heap.size,o) :: O) (w.alloc o) :=
 (h.calm (ext_alloc w o)).add (get_alloc w o) (h.fresh (Nat.le_refl _)) (.inl h.ext.size)
theorem nodup_inj {l : List Nat} (h : l.Nodup) {i j x : Nat} (hi : l[i]? = some x) (hj : l[j]? = some x) : i = j := by
 induction l generalizing i j with
 | nil => simp at hi
 | cons y l ih =>
  obtain ⟨h1,h2⟩ := List.nodup_cons.1 h
  cases i with
  | zero =>
   cases j with
   | zero => rfl
   | succ j => simp at hi hj; subst hi; exact absurd (List.mem_of_getElem? hj) h1
  | succ i =>
   cases j with
   | zero => simp at hi hj; subst hj; exact absurd (List.mem_of_getElem? hi) h1
   | succ j => simp at hi hj; rw [ih h2 hi hj]
theorem HP.set (h : HP w0 M R O w) (i : Nat) {b : Nat} {o : Obj} (o' : Obj) (hi : O[i]? = some (b,o)) (hw : w'.heap = w.heap.setIfInBounds b o') (h1 : w'.os = w.os) (h2 : w'.tape = w.tape) (h3 : w'.output = w.output) :
  HP w0 M R (O.set i (b,o')) w' := by
 have hmem : (b,o) ∈ O := List.mem_of_getElem? hi
 have hlt : i < O.length := (List.getElem?_eq_some_iff.1 hi).1
 have hbl := lt_of_get (h.own _ hmem)
 have hother : ∀ e ∈ O.set i (b,o'),e = (b,o') ∨ (e ∈ O ∧ e.1 ≠ b) := by
  intro e he
  obtain ⟨j,hj⟩ := List.mem_iff_getElem?.1 he
  rw [List.getElem?_set] at hj
  by_cases hij : i = j
  ·subst hij
   simp [hlt] at hj
   exact .inl hj.symm
  ·rw [if_neg hij] at hj
   refine .inr ⟨List.mem_of_getElem? hj,fun hb => hij ?_⟩
   have e1 : (O.map (·.1))[i]? = some b := by simp [hi]
   have e2 : (O.map (·.1))[j]? = some b := by simp [hj,hb]
   exact nodup_inj h.dist e1 e2
 have hmap : (O.set i (b,o')).map (·.1) = O.map (·.1) := by
  rw [List.map_set]
  apply List.ext_getElem?
  intro j
  rw [List.getElem?_set]
  by_cases hij : i = j
  ·subst hij; simp [hlt]; have := (List.getElem?_eq_some_iff.1 hi).2; rw [this]
  ·rw [if_neg hij]
 have hget : ∀ k,k ≠ b → w'.heap[k]? = w.heap[k]? := fun k hk => by rw [hw]; simp [Ne.symm hk]
 refine ⟨⟨h1.trans h.ext.os,h2.trans h.ext.tape,h3.trans h.ext.output,by rw [hw]; simpa using h.ext.size,fun k hk hn => ?_⟩,fun e he => ?_,h.rod,fun e he => ?_,by rw [hmap]; exact h.dist,fun e he => ?_⟩
 ·have hkb : k ≠ b := by
   rintro rfl
   rcases h.mine _ hmem with hh | hh
   ·simp only at hh; omega
   ·exact hn hh
  rw [hget k hkb]; exact h.ext.block k hk hn
 ·have hkb : e.1 ≠ b := by
   intro hb
   rcases h.mine _ hmem with hh | hh
   ·have := (h.rod e he).1; simp only at hh; omega
   ·exact (h.rod e he).2 (hb ▸ hh)
  rw [hget _ hkb]; exact h.ro e he
 ·rcases hother e he with rfl | ⟨he',hne⟩
  ·simp [hw,hbl]
  ·rw [hget _ hne]; exact h.own e he'
 ·rcases hother e he with rfl | ⟨he',_⟩
  ·exact h.mine (b,o) hmem
  ·exact h.mine e he'
theorem cell_cells {b off : Nat} {cs : Array Value} {t : TypeId} {fr : Nat × Nat} (h : w.heap[b]? = some (.cells cs t fr)) : w.cell? ⟨b,off,none⟩ = cs[off]? := by
 simp [World.cell?,h]
theorem HP.rcell (h : HP w0 M R O w) (i : Nat) {b off : Nat} {cs : Array Value} {t : TypeId} {fr : Nat × Nat} {v : Value} (hi : R[i]? = some (b,.cells cs t fr)) (hv : cs[off]? = some v) : w.cell? ⟨b,off,none⟩ = some v := by
 rw [cell_cells (h.ro _ (List.mem_of_getElem? hi))]; exact hv
theorem HP.ocell (h : HP w0 M R O w) (i : Nat) {b off : Nat} {cs : Array Value} {t : TypeId} {fr : Nat × Nat} {v : Value} (hi : O[i]? = some (b,.cells cs t fr)) (hv : cs[off]? = some v) : w.cell? ⟨b,off,none⟩ = some v := by
 rw [cell_cells (h.own _ (List.mem_of_getElem? hi))]; exact hv
theorem setCell_heap {b off : Nat} {cs : Array Value} {t : TypeId} {fr : Nat × Nat} {v : Value} (h : w.heap[b]? = some (.cells cs t fr)) :
  (w.setCell ⟨b,off,none⟩ v).heap = w.heap.setIfInBounds b (.cells (cs.setIfInBounds off v) t fr) := by
 apply Array.ext_getElem?
 intro k
 have hb := lt_of_get h
 simp only [World.setCell,Array.getElem?_modify,Array.getElem?_setIfInBounds]
 by_cases hk : b = k
 ·subst hk
  have h' : w.heap[b] = .cells cs t fr := by simpa [Array.getElem?_eq_getElem hb] using h
  simp [hb,h']
 ·simp [hk]
theorem HP.setCell (h : HP w0 M R O w) (i : Nat) {b off : Nat} {cs : Array Value} {t : TypeId} {fr : Nat × Nat} (v : Value) (hi : O[i]? = some (b,.cells cs t fr)) :
  HP w0 M R (O.set i (b,.cells (cs.setIfInBounds off v) t fr)) (w.setCell ⟨b,off,none⟩ v) :=
 h.set i _ hi (setCell_heap (h.own _ (List.mem_of_getElem? hi))) rfl rfl rfl
end
end K
end Go.Proofs.YtojefiolcedigaaGreatDoor
namespace Go.Proofs.YtojefiolcedigaaGreatDoor
namespace K
abbrev KI := Code ⊕ Nat ⊕ (Act → World → Prop)
def aft (P : Program) (ro : Option Nat) (Q : Exit → Act → World → Prop) : List KI → Exit → Act → World → Prop
 | [],e,a,w => Q e a w
 | .inl c :: ks,e,a,w => match e with
  | .normal => c.wpIn (fen ro) 0 P (aft P ro Q ks) a w
  | e => aft P ro Q ks e a w
 | .inr (.inl id) :: ks,e,a,w => match e with
  | .exit j => if j = id then aft P ro Q ks .normal a w else aft P ro Q ks (.exit j) a w
  | e => aft P ro Q ks e a w
 | .inr (.inr I) :: ks,e,a,w => match e with
  | .normal => I a w
  | e => aft P ro Q ks e a w
def popTo (id : Nat) : List KI → Option (List KI)
 | [] => none
 | .inr (.inl j) :: ks => bif Nat.beq j id then some ks else popTo id ks
 | .inl _ :: ks => popTo id ks
 | .inr (.inr _) :: ks => popTo id ks
def nrm : Nat → List KI → List KI
 | 0,ks => ks
 | f + 1,ks => match ks with
  | .inl (.seq x y) :: ks => nrm f (.inl x :: .inl y :: ks)
  | .inl (.block id c) :: ks => nrm f (.inl c :: .inr (.inl id) :: ks)
  | .inl .skip :: ks => nrm f ks
  | .inl (.label _) :: ks => nrm f ks
  | .inr (.inl _) :: ks => nrm f ks
  | .inl (.exit id) :: ks => match popTo id ks with
   | some ks' => nrm f ks'
   | none => .inl (.exit id) :: ks
  | ks => ks
section
variable {P : Program} {ro : Option Nat} {Q : Exit → Act → World → Prop} {a : Act} {w : World}
theorem aft_code (y : Code) (ks : List KI) : aft P ro Q (.inl y :: ks) = Exit.then (y.wpIn (fen ro) 0 P (aft P ro Q ks)) (aft P ro Q ks) := by
 funext e a w
 cases e <;> rfl
theorem aft_block (id : Nat) (ks : List KI) : aft P ro Q (.inr (.inl id) :: ks) = Exit.inBlock id (aft P ro Q ks) := by
 funext e a w
 cases e <;> rfl
theorem aft_inv (I : Act → World → Prop) (ks : List KI) : aft P ro Q (.inr (.inr I) :: ks) = Exit.then I (aft P ro Q ks) := by
 funext e a w
 cases e <;> rfl
theorem popTo_ok {id : Nat} : ∀ {ks ks' : List KI},popTo id ks = some ks' → aft P ro Q ks' .normal a w → aft P ro Q ks (.exit id) a w
 | [],_,h,_ => by cases h
 | .inr (.inl j) :: ks,ks',h,h' => by
  simp only [popTo] at h
  cases hb : Nat.beq j id with
  | true =>
   simp only [hb,cond_true,Option.some.injEq] at h
   subst h
   rw [beq_iff.1 hb]
   show (if id = id then _ else _)
   rw [if_pos rfl]; exact h'
  | false =>
   simp only [hb,cond_false] at h
   have hne : ¬ id = j := fun e => by
    have := beq_iff.2 e.symm
    rw [hb] at this; cases this
   show (if id = j then _ else _)
   rw [if_neg hne]; exact popTo_ok h h'
 | .inl _ :: ks,ks',h,h' => popTo_ok (ks := ks) h h'
 | .inr (.inr _) :: ks,ks',h,h' => popTo_ok (ks := ks) h h'
theorem nrm_ok : ∀ (f : Nat) {ks : List KI},aft P ro Q (nrm f ks) .normal a w → aft P ro Q ks .normal a w
 | 0,_,h => h
 | f + 1,ks,h => by
  unfold nrm at h
  split at h
  ·rename_i x y ks
   have := nrm_ok f h
   show Code.wpIn (fen ro) 0 P (Code.seq x y) (aft P ro Q ks) a w
   refine wpIn_seq ?_
   rw [← aft_code]; exact this
  ·rename_i id c ks
   have := nrm_ok f h
   show Code.wpIn (fen ro) 0 P (Code.block id c) (aft P ro Q ks) a w
   refine wpIn_block ?_
   rw [← aft_block]; exact this
  ·exact wpIn_skip (nrm_ok f h)
  ·exact wpIn_label (nrm_ok f h)
  ·rename_i ks
   exact nrm_ok (ks := ks) f h
  ·rename_i id ks
   split at h
   ·rename_i ks' hp
    exact wpIn_exit (popTo_ok hp (nrm_ok f h))
   ·exact h
  ·exact h
theorem aft_ret : ∀ (ks : List KI),Q .ret a w → aft P ro Q ks .ret a w
 | [],h => h
 | .inl _ :: ks,h => aft_ret ks h
 | .inr (.inl _) :: ks,h => aft_ret ks h
 | .inr (.inr _) :: ks,h => aft_ret ks h
theorem aft_panic {c : List PanicEntry} : ∀ (ks : List KI),aft P ro Q ks (.panic c) a w = Q (.panic c) a w
 | [] => rfl
 | .inl _ :: ks => aft_panic ks
 | .inr (.inl _) :: ks => aft_panic ks
 | .inr (.inr _) :: ks => aft_panic ks
theorem aft_out : ∀ (ks : List KI),aft P ro Q ks .outgrown a w = Q .outgrown a w
 | [] => rfl
 | .inl _ :: ks => aft_out ks
 | .inr (.inl _) :: ks => aft_out ks
 | .inr (.inr _) :: ks => aft_out ks
theorem rowsIn_fen {row : String} {args : Array Value} {R : Value → World → Prop} (h : Rows P row args w R) : RowsIn (fen ro) 0 P row args w R :=
 fun c cs _ => by
  obtain ⟨v,w',r,s⟩ := h c cs
  have h1 : StepsIn (Machine.fenced P Fence.wide) P (lone (Frame.ofRow P row args .normal) (c :: cs) w) (lone (c.finish v) cs w') := stepsIn_wide.2 s
  exact ⟨v,w',r,h1⟩
theorem callsIn_fen {f : FuncId} {args : Array Value} {R : Ending → World → Prop} (h : Calls P f args w R) : CallsIn (fen ro) 0 P f args w R := by
 have h1 : CallsIn Fence.wide 0 P f args w R := callsIn_wide.2 h
 exact h1
def ndf (o : Oper) : Bool := match o.op with | .defer .. => false | _ => true
theorem ndf_spec {o : Oper} (h : ndf o = true) : ∀ c,o.op ≠ .defer c := by
 intro c hc
 simp [ndf,hc] at h
theorem wpIn_of_wp {o : Oper} {next : Act → World → Prop} (hn : ndf o = true) (h : o.wp P a w next Q) : o.wpIn (fen ro) 0 P a w next Q := by
 refine ⟨fun _ _ => trivial,?_⟩
 rw [Oper.semAt_eq _ _ _ (ndf_spec hn)]
 unfold Oper.wp at h
 generalize (execOp a.eval o).run P w = r at h ⊢
 match r,h with
 | .ok (.value v) w',h => exact h
 | .ok .skip w',h => exact h
 | .ok (.defer d) w',h => exact h
 | .ok (.enter f args) w',h => exact ⟨fun h => (by cases h),callsIn_fen h⟩
 | .ok (.row row args) w',h => exact ⟨fun h => (by cases h),rowsIn_fen h⟩
 | .ok (.round ..) w',h => exact h.elim
 | .halt (.panic v) w',h => exact h
theorem wpAnyIn_of_held {S : World → Prop} {md : Region.Mode} {ops : Array Oper} (hl : ¬ LetsOut Q) (hn : ops.all ndf = true) : ∀ (fuel : Nat) (listed : Array Bool) (a : Act) (w : World),wpAnyH P md ops Q S fuel listed a w → wpAnyIn (fen ro) 0 P md ops Q fuel listed a w
 | 0,_,_,_,h => h
 | fuel + 1,_,a,w,h => ⟨h.1,fun i hi => by
  have h2 := wpOp_mono (fun a' w' h' => wpAnyIn_of_held hl hn fuel _ a' w' h'.2) (h.2 i hi)
  unfold wpOp at h2
  unfold wpOpIn
  split at h2
  ·rename_i he
   rw [he]; exact h2
  ·rename_i o he
   rw [he]
   have ho : ndf o = true := by
    obtain ⟨hlt,hx⟩ := Array.getElem?_eq_some_iff.1 he
    exact Array.all_eq_true.1 hn i hlt |> fun h => hx ▸ h
   dsimp only
   split at h2
   ·rename_i hw
    rw [if_pos hw]
    rcases h2 with h2 | h2
    ·exact wpIn_of_wp ho h2
    ·exact absurd h2.2 hl
   ·rename_i hw
    rw [if_neg hw]
    exact ⟨fun _ _ => trivial,h2⟩⟩
end
structure Cx where
 P : Program
 fn : Func
 post : Ending → World → Prop
 w0 : World
 M : List Nat
 ro : Option Nat
 D : List Deferred
 Q0 : Exit → Act → World → Prop
 po : PanicOk Q0
 lo : ¬ LetsOut Q0
 rt : D = [] → ∀ a w v,a.defers = D → (Go.results fn a.tmps).run P w = .ok v w → post (.returned v) w → Q0 .ret a w ∧ Q0 .normal a w
def noOut (post : Ending → World → Prop) (e : Ending) (w : World) : Prop := e ≠ .outgrown ∧ post e w
def Cx.plain (P : Program) (fn : Func) (post : Ending → World → Prop) (w0 : World) (M : List Nat) : Cx where
 P := P
 fn := fn
 post := post
 w0 := w0
 M := M
 ro := none
 D := []
 Q0 := bodyPost P fn (noOut post)
 po := fun c a w d v h => by cases d <;> exact h
 lo := fun ⟨a,w,h⟩ => h.1 rfl
 rt := fun _ a w v hd hr hp => ⟨⟨hd,v,hr,by simp,hp⟩,⟨hd,v,hr,by simp,hp⟩⟩
abbrev Cx.Q (C : Cx) (ks : List KI) : Exit → Act → World → Prop := aft C.P C.ro C.Q0 ks
def Cfg (C : Cx) (R O : List (Nat × Obj)) (Γ : Env) (ks : List KI) : Prop :=
 ∀ a w,St C.fn.ntmps C.D Γ a → HP C.w0 C.M R O w → C.Q ks .normal a w
def CfgL (C : Cx) (R O : List (Nat × Obj)) (Γ : Env) (ops : Array Oper) (rest : List Oper) (ks : List KI) : Prop :=
 ∀ a w,St C.fn.ntmps C.D Γ a → HP C.w0 C.M R O w → wpListIn (fen C.ro) 0 C.P ops (C.Q ks) rest a w
def CfgA (C : Cx) (R Os O : List (Nat × Obj)) (Γ : Env) (ops : Array Oper) (fuel : Nat) (l : Array Bool) (ks : List KI) : Prop :=
 ∀ a w,St C.fn.ntmps C.D Γ a → HP C.w0 C.M R O w → wpAnyH C.P .any ops (C.Q ks) (HP C.w0 C.M R Os) fuel l a w
theorem panicOk (C : Cx) (ks : List KI) : PanicOk (C.Q ks) := by
 intro c a w d v h
 rw [Cx.Q,aft_panic] at *
 exact C.po c a w d v h
theorem notOut (C : Cx) (ks : List KI) : ¬ LetsOut (C.Q ks) := fun ⟨a,w,h⟩ => C.lo ⟨a,w,by rw [Cx.Q,aft_out] at h; exact h⟩
def evR (C : Cx) (S : World → Prop) (Γ : Env) (ops : Array Oper) (l : List Oper) (ds : List Dir) (kp : Option (List Nat)) : Option (Env × List Prop) :=
 bif Region.noSelect ops then
  match evOps C.P S C.fn.ntmps ops l ds Γ with
  | some r => some (match kp with | some ks => keep ks r.1 | none => r.1,r.2)
  | none => none
 else none
section
variable {C : Cx} {R O : List (Nat × Obj)} {Γ Γ' : Env} {ks ks' : List KI} {nd : (World → Prop) → List Prop} {ops : Array Oper}
theorem evR_some {S : World → Prop} {l : List Oper} {ds : List Dir} {kp : Option (List Nat)} {nd : List Prop} (h : evR C S Γ ops l ds kp = some (Γ',nd)) :
  Region.noSelect ops = true ∧ ∃ Γ2,evOps C.P S C.fn.ntmps ops l ds Γ = some (Γ2,nd) ∧ ∀ n D a,St n D Γ2 a → St n D Γ' a := by
 unfold evR at h
 cases hb : Region.noSelect ops with
 | false => simp [hb] at h
 | true =>
  simp only [hb,cond_true] at h
  split at h
  ·rename_i r hr
   simp only [Option.some.injEq,Prod.mk.injEq] at h
   obtain ⟨h1,h2⟩ := h
   refine ⟨rfl,r.1,by rw [hr,← h2],fun n D a hs => ?_⟩
   rw [← h1]
   cases kp with
   | none => exact hs
   | some kp => exact keep_ok kp hs
  ·cases h
theorem Cfg.nrm (h : Cfg C R O Γ (K.nrm 99 ks)) : Cfg C R O Γ ks := fun a w hs hp => nrm_ok 99 (h a w hs hp)
theorem sel_all (h : Region.noSelect ops = true) {l : List Oper} (hl : ∀ o ∈ l,o ∈ ops.toList) : ∀ o ∈ l,∀ cs b,o.op ≠ .select cs b := by
 intro o ho cs b
 obtain ⟨j,hj⟩ := List.mem_iff_getElem?.1 (hl o ho)
 exact Region.noSelect_spec h j o cs b (by simpa using hj)
theorem Cfg.reg {id : Nat} (hk : K.nrm 99 ks = .inl (.region id ops false) :: ks') (kp : List Nat) (ds : List Dir) (he : ∀ S,evR C S Γ ops ops.toList ds (some kp) = some (Γ',nd S)) (hn : All (nd (HP C.w0 C.M R O)))
  (h : Cfg C R O Γ' ks') : Cfg C R O Γ ks := by
 refine Cfg.nrm ?_
 rw [hk]
 intro a w hs hp
 obtain ⟨hsel,Γ2,he2,hw⟩ := evR_some (he _)
 refine wpIn_region_list ?_
 have := wplIn_pure (ro := C.ro) (Q := C.Q ks') (l2 := []) (w := w) ops.toList ds Γ a (sel_all hsel (fun _ h => h)) hs he2 hn.mem hp (fun a' hs' => h a' w (hw _ _ _ hs') hp)
 simpa using this
theorem Cfg.regD {id : Nat} (hk : K.nrm 99 ks = .inl (.region id ops true) :: ks') (hm : C.P.follows .mixedOrders = true) (kp : List Nat) (ds : List Dir)
  (ht0 : ((takes .any ops (Array.replicate ops.size false) (List.range ops.size)).map fun l => (Region.ready .any ops l).isEmpty) = some true) (ho0 : (opsAt ops (List.range ops.size)).isSome = true)
  (he : ∀ S,evR C S Γ ops ((opsAt ops (List.range ops.size)).getD []) ds (some kp) = some (Γ',nd S)) (hn : All (nd (HP C.w0 C.M R O))) (h : Cfg C R O Γ' ks') (hnd : ops.all ndf = true := by kernel_rfl) : Cfg C R O Γ ks := by
 refine Cfg.nrm ?_
 rw [hk]
 intro a w hs hp
 obtain ⟨hsel,Γ2,he2,hw⟩ := evR_some (he _)
 obtain ⟨l',ht,hr0⟩ := Option.map_eq_some_iff.1 ht0
 have hr : Region.ready .any ops l' = [] := List.isEmpty_iff.1 hr0
 obtain ⟨os,ho⟩ := Option.isSome_iff_exists.1 ho0
 rw [ho,Option.getD_some] at he2
 refine wpIn_region_any hm (wpAnyIn_of_held (S := HP C.w0 C.M R O) (notOut C ks') hnd _ _ _ _ ?_)
 have := any_pure (Q := C.Q ks') (w := { w with drawn := w.drawn + 1 }) (fuel := 0) hsel (panicOk C ks') (List.range ops.size) os ds _ Γ a ht ho hs he2 hn.mem hp.drew
  (fun a' hs' => wpAnyH_done hr (h a' _ (hw _ _ _ hs') hp.drew) 0)
 simpa using this
theorem Cfg.cond {c : Operand} {x y : Code} (hk : K.nrm 99 ks = .inl (.cond c x y) :: ks') {b : Bool} (hc : opd Γ [] c = some (.bool b)) (ht : b = true → Cfg C R O Γ (.inl x :: ks')) (hf : b = false → Cfg C R O Γ (.inl y :: ks')) :
  Cfg C R O Γ ks := by
 refine Cfg.nrm ?_
 rw [hk]
 intro a w hs hp
 have he := opd_ok hs (holds_nil _) hc
 exact wpIn_cond_split he (fun hb => ht hb a w hs hp) (fun hb => hf hb a w hs hp)
theorem Cfg.conv (h : Cfg C R O Γ' ks) (hΓ : ∀ n D a,St n D Γ a → St n D Γ' a) : Cfg C R O Γ ks := fun a w hs hp => h a w (hΓ _ _ a hs) hp
theorem Cfg.sub {O' : List (Nat × Obj)} (h : Cfg C R O' Γ ks) (hO : O'.Sublist O) : Cfg C R O Γ ks := fun a w hs hp => h a w hs (hp.sub hO)
def Conv (Γ : Env) : Env → Prop
 | [] => True
 | e :: Γ' => find Γ e.1 = some e.2 ∧ Conv Γ Γ'
theorem Conv.st (h : Conv Γ Γ') {n : Nat} {D : List Deferred} {a : Act} (hs : St n D Γ a) : St n D Γ' a := by
 refine hs.mono fun e he => ?_
 induction Γ' with
 | nil => cases he
 | cons x Γ' ih =>
  rcases List.mem_cons.1 he with rfl | he
  ·exact find_mem h.1
  ·exact ih h.2 he
def Again (C : Cx) (R : List (Nat × Obj)) {ι : Type} (Γi : ι → Env) (Oi : ι → List (Nat × Obj)) (I : ι → Prop) (μ : ι → Nat) (x : ι) (a : Act) (w : World) : Prop :=
 ∃ y,I y ∧ μ y < μ x ∧ St C.fn.ntmps C.D (Γi y) a ∧ HP C.w0 C.M R (Oi y) w
theorem Cfg.loop {c : Code} (hk : K.nrm 99 ks = .inl (.loop c) :: ks') {ι : Type} (Γi : ι → Env) (Oi : ι → List (Nat × Obj)) (I : ι → Prop) (μ : ι → Nat) (x0 : ι) (h0 : I x0) (hΓ : Conv Γ (Γi x0)) (hO : (Oi x0).Sublist O)
  (round : ∀ x,I x → Cfg C R (Oi x) (Γi x) (.inl c :: .inr (.inr (Again C R Γi Oi I μ x)) :: ks')) : Cfg C R O Γ ks := by
 refine Cfg.nrm ?_
 rw [hk]
 intro a w hs hp
 refine wpIn_loop_ghost (fun m a w => ∃ x,μ x = m ∧ I x ∧ St C.fn.ntmps C.D (Γi x) a ∧ HP C.w0 C.M R (Oi x) w) (μ x0) ⟨x0,rfl,h0,hΓ.st hs,hp.sub hO⟩ ?_
 rintro m a w ⟨x,rfl,hI,hs,hp⟩
 refine wpIn_mono (round x hI a w hs hp) ?_
 intro e a' w' hq
 have hq' := congrFun (congrFun (congrFun (aft_inv (P := C.P) (ro := C.ro) (Q := C.Q0) (Again C R Γi Oi I μ x) ks') e) a') w' ▸ hq
 clear hq
 cases e with
 | normal =>
  obtain ⟨y,h1,h2,h3,h4⟩ := hq'
  exact ⟨μ y,h2,y,rfl,h1,h3,h4⟩
 | _ => exact hq'
theorem Cfg.again {ι : Type} {Γi : ι → Env} {Oi : ι → List (Nat × Obj)} {I : ι → Prop} {μ : ι → Nat} {x : ι} (hk : K.nrm 99 ks = .inr (.inr (Again C R Γi Oi I μ x)) :: ks') (y : ι) (hI : I y) (hμ : μ y < μ x)
  (hΓ : Conv Γ (Γi y)) (hO : (Oi y).Sublist O) : Cfg C R O Γ ks := by
 refine Cfg.nrm ?_
 rw [hk]
 intro a w hs hp
 exact ⟨y,hI,hμ,hΓ.st hs,hp.sub hO⟩
def putO (Γ : Env) : Option Nat → Value → Env
 | some d,v => put Γ d [] v
 | none,_ => Γ
theorem putO_ok {n : Nat} {D : List Deferred} {a : Act} {d : Option Nat} {v : Value} (hs : St n D Γ a) (hd : ∀ t,d = some t → t < n) : St n D (putO Γ d v) (a.put d v) := by
 cases d with
 | none => exact hs
 | some t => exact put_ok hs (hd t rfl) rfl (fun _ => rfl) (fun h => absurd (holds_nil _) h)
def Eff (C : Cx) (R O : List (Nat × Obj)) (Γ : Env) (o : Oper) (ι : Type) (V : ι → Value) (O' : ι → List (Nat × Obj)) (F : ι → Prop) : Prop :=
 ∀ a w,St C.fn.ntmps C.D Γ a → HP C.w0 C.M R O w → ∀ (Kt : Act → World → Prop) (Q : Exit → Act → World → Prop),
  (∀ x w',F x → HP C.w0 C.M R (O' x) w' → Kt (a.put o.dst (V x)) w') → o.wp C.P a w Kt Q
def guardV (Γ : Env) (ops : Array Oper) (o : Oper) : Option Value :=
 match o.guard with
 | none => some (.bool true)
 | some (j,_) => match (ops[j]?).bind (·.dst) with
  | some tj => look Γ [] tj
  | none => none
def guardW (o : Oper) : Option Value :=
 match o.guard with
 | none => some (.bool true)
 | some (_,want) => some (.bool want)
theorem goes_wanted {n : Nat} {D : List Deferred} {a : Act} {o : Oper} (hs : St n D Γ a) (h : guardV Γ ops o = guardW o) : Region.wanted o (yielded ops a.tmps) = true := by
 unfold guardV guardW at h
 split at h
 ·rename_i hg; simp [Region.wanted,hg]
 ·rename_i j want hg
  split at h
  ·rename_i tj hj
   exact (wanted_iff hg hj).2 (look_ok hs (holds_nil _) h)
  ·cases h
def DstOk (n : Nat) (o : Oper) : Bool := match o.dst with | some t => Nat.blt t n | none => true
theorem DstOk.lt {n : Nat} {o : Oper} (h : DstOk n o = true) : ∀ t,o.dst = some t → t < n := by
 intro t ht
 simp only [DstOk,ht] at h
 exact Nat.lt_of_succ_le (Nat.le_of_ble_eq_true h)
theorem Cfg.begL {id : Nat} (hk : K.nrm 99 ks = .inl (.region id ops false) :: ks') (h : CfgL C R O Γ ops ops.toList ks') : Cfg C R O Γ ks := by
 refine Cfg.nrm ?_
 rw [hk]
 intro a w hs hp
 exact wpIn_region_list (h a w hs hp)
theorem CfgL.pure {rest : List Oper} (k : Nat) (ds : List Dir) (kp : Option (List Nat)) (hm : (rest.all fun o => match o.op with | .select .. => false | _ => true) = true)
  (he : ∀ S,evR C S Γ ops (rest.take k) ds kp = some (Γ',nd S)) (hn : All (nd (HP C.w0 C.M R O))) (h : CfgL C R O Γ' ops (rest.drop k) ks) : CfgL C R O Γ ops rest ks := by
 intro a w hs hp
 obtain ⟨hsel,Γ2,he2,hw⟩ := evR_some (he _)
 have := wplIn_pure (ro := C.ro) (Q := C.Q ks) (l2 := rest.drop k) (w := w) (rest.take k) ds Γ a (fun o ho cs b hh => by
  have := List.all_eq_true.1 hm o (List.mem_of_mem_take ho)
  simp [hh] at this) hs he2 hn.mem hp (fun a' hs' => h a' w (hw _ _ _ hs') hp)
 rwa [List.take_append_drop] at this
theorem CfgL.eff {rest rest' : List Oper} {o : Oper} (hr : rest = o :: rest') (hd : DstOk C.fn.ntmps o = true) (hg : guardV Γ ops o = guardW o) {ι : Type} {V : ι → Value} {O' : ι → List (Nat × Obj)} {F : ι → Prop} (he : Eff C R O Γ o ι V O' F)
  (h : ∀ x,F x → CfgL C R (O' x) (putO Γ o.dst (V x)) ops rest' ks) (hnd : ndf o = true := by kernel_rfl) : CfgL C R O Γ ops rest ks := by
 subst hr
 intro a w hs hp
 unfold wpListIn
 rw [if_pos (goes_wanted hs hg)]
 exact wpIn_of_wp hnd (he a w hs hp _ _ (fun x w' hx hp' => h x hx _ w' (putO_ok hs (DstOk.lt hd)) hp'))
theorem CfgL.done {rest : List Oper} (hr : rest = []) (h : Cfg C R O Γ ks) : CfgL C R O Γ ops rest ks := by
 subst hr
 intro a w hs hp
 exact h a w hs hp
theorem Cfg.begA {id : Nat} (hk : K.nrm 99 ks = .inl (.region id ops true) :: ks') (hm : C.P.follows .mixedOrders = true) (Os : List (Nat × Obj)) (h : CfgA C R Os O Γ ops ops.size (Array.replicate ops.size false) ks') (hnd : ops.all ndf = true := by kernel_rfl) : Cfg C R O Γ ks := by
 refine Cfg.nrm ?_
 rw [hk]
 intro a w hs hp
 exact wpIn_region_any hm (wpAnyIn_of_held (notOut C ks') hnd _ _ _ _ (h a _ hs hp.drew))
theorem CfgA.pure {Os : List (Nat × Obj)} {fuel : Nat} {l l' : Array Bool} (is : List Nat) (ds : List Dir) (kp : Option (List Nat)) (ht : takes .any ops l is = some l') (ho0 : (opsAt ops is).isSome = true)
  (hO : Os.Sublist O) (fuel' : Nat) (hf : fuel = fuel' + is.length)
  (he : ∀ S,evR C S Γ ops ((opsAt ops is).getD []) ds kp = some (Γ',nd S)) (hn : All (nd (HP C.w0 C.M R Os))) (h : CfgA C R Os O Γ' ops fuel' l' ks) : CfgA C R Os O Γ ops fuel l ks := by
 intro a w hs hp
 obtain ⟨hsel,Γ2,he2,hw⟩ := evR_some (he _)
 obtain ⟨os,ho⟩ := Option.isSome_iff_exists.1 ho0
 rw [ho,Option.getD_some] at he2
 subst hf
 exact any_pure (Q := C.Q ks) (w := w) hsel (panicOk C ks) is os ds l Γ a ht ho hs he2 hn.mem (hp.sub hO) (fun a' hs' => h a' w (hw _ _ _ hs') hp)
theorem CfgA.eff {Os : List (Nat × Obj)} {fuel fuel' : Nat} {l : Array Bool} (i : Nat) {o : Oper} (ho : ops[i]? = some o) (hr : Region.ready .any ops l = [i]) (hf : fuel = fuel' + 1) (hd : DstOk C.fn.ntmps o = true) (hg : guardV Γ ops o = guardW o)
  {ι : Type} {V : ι → Value} {O' : ι → List (Nat × Obj)} {F : ι → Prop} (he : Eff C R O Γ o ι V O' F) (hO : ∀ x,F x → Os.Sublist (O' x))
  (h : ∀ x,F x → CfgA C R Os (O' x) (putO Γ o.dst (V x)) ops fuel' (l.setIfInBounds i true) ks) : CfgA C R Os O Γ ops fuel l ks := by
 subst hf
 intro a w hs hp
 refine wpAnyH_all hr (by simp) ?_
 intro j hj
 simp only [List.mem_cons,List.not_mem_nil,or_false] at hj
 subst hj
 unfold wpOp
 simp only [ho,goes_wanted hs hg,if_true]
 exact .inl (he a w hs hp _ _ (fun x w' hx hp' => ⟨hp'.sub (hO x hx),h x hx _ w' (putO_ok hs (DstOk.lt hd)) hp'⟩))
theorem CfgA.done {Os : List (Nat × Obj)} {fuel : Nat} {l : Array Bool} (hr : Region.ready .any ops l = []) (h : Cfg C R O Γ ks) : CfgA C R Os O Γ ops fuel l ks := by
 intro a w hs hp
 exact wpAnyH_done hr (h a w hs hp) fuel
def Res (C : Cx) (R O : List (Nat × Obj)) (Γ : Env) : List ResultVar → List Value → Prop
 | [],[] => True
 | .tmp t :: rs,v :: vs => look Γ [] t = some v ∧ Res C R O Γ rs vs
 | .cell p ty :: rs,v :: vs => (∃ x,look Γ [] p = some (.pointer (some x)) ∧ ∀ w,HP C.w0 C.M R O w → (loadVar ty x).run C.P w = .ok v w) ∧ Res C R O Γ rs vs
 | _,_ => False
def resF (tm : Array Value) : ResultVar → Sem Value
 | .tmp t => pure (tm.getD t undef)
 | .cell x t => do loadVar t (← asAddr (tm.getD x undef))
theorem results_eq (fn : Func) (tm : Array Value) : Go.results fn tm = (do let vs ← fn.results.mapM (resF tm); pure (if h : vs.size = 1 then vs[0] else .tuple vs)) := by
 unfold Go.results
 congr 1
theorem Res.run {a : Act} {w : World} {n : Nat} {D : List Deferred} (hs : St n D Γ a) (hp : HP C.w0 C.M R O w) : ∀ {rs : List ResultVar} {vs : List Value},Res C R O Γ rs vs →
  (rs.mapM (resF a.tmps)).run C.P w = .ok vs w
 | [],[],_ => by simp
 | .tmp t :: rs,v :: vs,h => by
  have h1 := look_ok hs (holds_nil _) h.1
  have ih := Res.run hs hp h.2
  simp only [List.mapM_cons,resF,Sem.run_bind,Sem.run_pure,Result.andThen_ok,h1]
  rw [ih]; rfl
 | .cell p ty :: rs,v :: vs,h => by
  obtain ⟨⟨x,hx,hv⟩,h2⟩ := h
  have h1 := look_ok hs (holds_nil _) hx
  have ih := Res.run hs hp h2
  have hA : (asAddr (.pointer (some x))).run C.P w = .ok x w := rfl
  simp only [List.mapM_cons,resF,Sem.run_bind,Sem.run_pure,Result.andThen_ok,h1,hA,hv w hp]
  rw [ih]; rfl
 | [],_ :: _,h => h.elim
 | .tmp _ :: _,[],h => h.elim
 | .cell .. :: _,[],h => h.elim
def resOf : List Value → Value
 | [v] => v
 | vs => .tuple vs.toArray
theorem Res.out {a : Act} {w : World} {n : Nat} {D : List Deferred} (hs : St n D Γ a) (hp : HP C.w0 C.M R O w) {rs : List ResultVar} {vs : List Value} (hr : C.fn.results = rs.toArray) (h : Res C R O Γ rs vs) :
  (Go.results C.fn a.tmps).run C.P w = .ok (resOf vs) w := by
 have := Res.run hs hp h
 rw [results_eq,hr,List.mapM_toArray]
 simp only [Sem.run_bind,map_eq_pure_bind,this,Result.andThen_ok,Sem.run_pure]
 match vs with
 | [] => rfl
 | [v] => rfl
 | _ :: _ :: _ => simp [resOf]
theorem Cfg.ret (hk : K.nrm 99 ks = .inl .ret :: ks') {rs : List ResultVar} (hr : C.fn.results = rs.toArray) (vs : List Value) (hv : Res C R O Γ rs vs) (hp : ∀ w,HP C.w0 C.M R O w → C.post (.returned (resOf vs)) w) (hD : C.D = [] := by rfl) : Cfg C R O Γ ks := by
 refine Cfg.nrm ?_
 rw [hk]
 intro a w hs h
 exact wpIn_ret (aft_ret ks' (C.rt hD a w _ hs.dfr (hv.out hs h hr) (hp w h)).1)
theorem Cfg.fin (hk : K.nrm 99 ks = []) {rs : List ResultVar} (hr : C.fn.results = rs.toArray) (vs : List Value) (hv : Res C R O Γ rs vs) (hp : ∀ w,HP C.w0 C.M R O w → C.post (.returned (resOf vs)) w) (hD : C.D = [] := by rfl) : Cfg C R O Γ ks := by
 refine Cfg.nrm ?_
 rw [hk]
 intro a w hs h
 exact (C.rt hD a w _ hs.dfr (hv.out hs h hr) (hp w h)).2
def argsΓ : Nat → List Value → Env
 | _,[] => []
 | i,v :: vs => (i,[],v) :: argsΓ (i + 1) vs
theorem argsΓ_mem {e : Nat × Ch × Value} : ∀ {i : Nat} {vs : List Value},e ∈ argsΓ i vs → e.2.1 = [] ∧ i ≤ e.1 ∧ vs[e.1 - i]? = some e.2.2
 | _,[],h => by cases h
 | i,v :: vs,h => by
  rcases List.mem_cons.1 h with rfl | h
  ·simp
  ·obtain ⟨h1,h2,h3⟩ := argsΓ_mem h
   refine ⟨h1,by omega,?_⟩
   rw [show e.1 - i = (e.1 - (i + 1)) + 1 by omega,List.getElem?_cons_succ]; exact h3
theorem enter {P : Program} {f : FuncId} {fn : Func} {c : Code} {vs : List Value} {w : World} {post : Ending → World → Prop} (M : List Nat) (R O : List (Nat × Obj)) (hf : P.funcs[f]? = some fn) (hb : fn.body = some c)
  (hn0 : Nat.ble vs.length fn.ntmps = true) (hp : HP w M R O w) (h : Cfg (Cx.plain P fn post w M) R O (argsΓ 0 vs) [.inl c]) : Calls P f vs.toArray w post := by
 have hn : vs.length ≤ fn.ntmps := Nat.le_of_ble_eq_true hn0
 refine (calls_of_wp (R := noOut post) hf hb ?_).mono (fun e w' he => he.2)
 refine (wpIn_wide (n := 0)).1 ?_
 refine h _ w ⟨by show _ = fn.ntmps; simp; omega,rfl,?_⟩ hp
 intro e he
 obtain ⟨h1,_,h3⟩ := argsΓ_mem he
 rw [h1]
 refine ⟨fun _ => ?_,fun hh => absurd (holds_nil _) hh⟩
 have hlt : e.1 < vs.length := by
  rcases Nat.lt_or_ge e.1 vs.length with hh | hh
  ·exact hh
  ·rw [Nat.sub_zero,List.getElem?_eq_none hh] at h3; cases h3
 rw [Nat.sub_zero] at h3
 rw [Array.getD_eq_getD_getElem?,Array.getElem?_append_left (by simpa using hlt)]
 simp [h3]
theorem HP.start (w : World) : HP w [] [] [] w := ⟨Ext.refl _ _,(fun _ h => by cases h),(fun _ h => by cases h),(fun _ h => by cases h),by simp,(fun _ h => by cases h)⟩
end
end K
end Go.Proofs.YtojefiolcedigaaGreatDoor
namespace Go.Proofs.YtojefiolcedigaaGreatDoor
namespace K
section
variable {C : Cx} {R O : List (Nat × Obj)} {Γ : Env} {o : Oper}
theorem Eff.of_run {ι : Type} {V : ι → Value} {O' : ι → List (Nat × Obj)} {F : ι → Prop}
  (h : ∀ a w,St C.fn.ntmps C.D Γ a → HP C.w0 C.M R O w → ∃ x w',F x ∧ (execOp a.eval o).run C.P w = .ok (.value (V x)) w' ∧ HP C.w0 C.M R (O' x) w') : Eff C R O Γ o ι V O' F := by
 intro a w hs hp Kt Q hK
 obtain ⟨x,w',hx,hr,hp'⟩ := h a w hs hp
 unfold Oper.wp
 rw [hr]
 exact hK x w' hx hp'
theorem Eff.of_skip {ι : Type} {O' : ι → List (Nat × Obj)} {F : ι → Prop}
  (h : ∀ a w,St C.fn.ntmps C.D Γ a → HP C.w0 C.M R O w → ∃ x w',F x ∧ (execOp a.eval o).run C.P w = .ok .skip w' ∧ HP C.w0 C.M R (O' x) w') : Eff C R O Γ o ι (fun _ => undef) O' F := by
 intro a w hs hp Kt Q hK
 obtain ⟨x,w',hx,hr,hp'⟩ := h a w hs hp
 unfold Oper.wp
 rw [hr]
 exact hK x w' hx hp'
def opds (Γ : Env) : List Operand → Option (List Value)
 | [] => some []
 | x :: l => match opd Γ [] x,opds Γ l with
  | some v,some vs => some (v :: vs)
  | _,_ => none
theorem opds_ok {n : Nat} {D : List Deferred} {a : Act} (hs : St n D Γ a) : ∀ {l : List Operand} {vs : List Value},opds Γ l = some vs → l.map a.eval = vs
 | [],vs,h => by simp only [opds,Option.some.injEq] at h; rw [← h]; rfl
 | x :: l,vs,h => by
  unfold opds at h
  split at h
  ·rename_i v us h1 h2
   simp only [Option.some.injEq] at h
   rw [← h,List.map_cons,opd_ok hs (holds_nil _) h1,opds_ok hs h2]
  ·cases h
theorem run_callFunc {P : Program} {f : FuncId} {fn : Func} {c : Code} {args : Array Value} {w : World} (hf : P.funcs[f]? = some fn) (hnm : (fn.name == "runtime.NumGoroutine") = false) (hb : fn.body = some c) :
  (callFunc f args).run P w = .ok (.enter f args) w := by
 have h1 : ¬ fn.name = "runtime.NumGoroutine" := by simpa using hnm
 simp [callFunc,program,Sem.run,hf,h1,hb]
theorem Eff.call {f : FuncId} {fn : Func} {c : Code} {xs : List Operand} {tys : Array TypeId} (ho : o.op = .call ⟨.value (.func f),xs.toArray,tys⟩) (hf : C.P.funcs[f]? = some fn) (hnm : (fn.name == "runtime.NumGoroutine") = false) (hb : fn.body = some c)
  {vs : List Value} (hx : opds Γ xs = some vs) {ι : Type} {V : ι → Value} {O' : ι → List (Nat × Obj)} {F : ι → Prop}
  (h : ∀ w,HP C.w0 C.M R O w → Calls C.P f vs.toArray w fun e w' => ∃ x,F x ∧ e = .returned (V x) ∧ HP C.w0 C.M R (O' x) w') : Eff C R O Γ o ι V O' F := by
 intro a w hs hp Kt Q hK
 have hargs := opds_ok hs hx
 have hrun : (execOp a.eval o).run C.P w = .ok (.enter f vs.toArray) w := by
  simp [execOp,ho,resolve,Deferred.ofValue,Act.eval,invoke,hargs,run_callFunc hf hnm hb]
 unfold Oper.wp
 rw [hrun]
 refine (h w hp).mono ?_
 rintro e w' ⟨x,hx,rfl,hp'⟩
 exact hK x w' hx hp'
theorem Eff.alloc {t : TypeId} {z : Value} (ho : o.op = .alloc t) (hz0 : (C.P.info? t).bind (·.zero) = some z) :
  Eff C R O Γ o Nat (fun b => .pointer (some ⟨b,0,none⟩)) (fun b => (b,.cells z.cells t (0,0)) :: O) (fun b => C.w0.heap.size ≤ b ∧ b ∉ O.map (·.1)) := by
 refine Eff.of_run fun a w hs hp => ⟨w.heap.size,w.alloc (.cells z.cells t (0,0)),⟨hp.ext.size,hp.fresh (Nat.le_refl _)⟩,?_,hp.alloc _⟩
 obtain ⟨inf,hi,hz⟩ := Option.bind_eq_some_iff.1 hz0
 simp [execOp,ho,Instr.alloc,zeroValue,typeInfo,program,Sem.run,hi,hz,newVar,newRow,newObj]
theorem Eff.box {t : TypeId} {x : Operand} {v : Value} (ho : o.op = .box t x) (hx : opd Γ [] x = some v) :
  Eff C R O Γ o Nat (fun b => .pointer (some ⟨b,0,none⟩)) (fun b => (b,.cells v.cells t (0,0)) :: O) (fun b => C.w0.heap.size ≤ b ∧ b ∉ O.map (·.1)) := by
 refine Eff.of_run fun a w hs hp => ⟨w.heap.size,w.alloc (.cells v.cells t (0,0)),⟨hp.ext.size,hp.fresh (Nat.le_refl _)⟩,?_,hp.alloc _⟩
 simp [execOp,ho,Instr.box,opd_ok hs (holds_nil _) hx,newVar,newRow,newObj,Sem.run]
def one : Value → Bool
 | .agg _ | .tuple _ => false
 | _ => true
theorem Eff.store1 {t : TypeId} {x y : Operand} {b off : Nat} {v : Value} (ho : o.op = .store t x y) (hx : opd Γ [] x = some (.pointer (some ⟨b,off,none⟩))) (hy : opd Γ [] y = some v) (h1 : one v = true)
  (hsz0 : (C.P.info? t).map (·.size) = some 1) (i : Nat) {cs : Array Value} {e : TypeId} (hO : O[i]? = some (b,.cells cs e (0,0))) (hoff : off < cs.size) :
  Eff C R O Γ o Unit (fun _ => undef) (fun _ => O.set i (b,.cells (cs.setIfInBounds off v) e (0,0))) (fun _ => True) := by
 refine Eff.of_skip fun a w hs hp => ⟨(),w.setCell ⟨b,off,none⟩ v,trivial,?_,hp.setCell i v hO⟩
 obtain ⟨inf,hi,hsz⟩ := Option.map_eq_some_iff.1 hsz0
 have hb := hp.own _ (List.mem_of_getElem? hO)
 have hc : w.cell? ⟨b,off,none⟩ = some (cs[off]) := by rw [cell_cells hb]; exact Array.getElem?_eq_getElem hoff
 have hfz : w.frozen? ⟨b,off,none⟩ = false := by simp [World.frozen?,hb]
 have hst : (store ⟨b,off,none⟩ v).run C.P w = .ok () (w.setCell ⟨b,off,none⟩ v) := by
  unfold store
  cases v <;> simp [K.one] at h1 <;> simp [Sem.run,hc,hfz]
 have hv : v.cells = #[v] := by cases v <;> first | rfl | simp [K.one] at h1
 simp [execOp,ho,opd_ok hs (holds_nil _) hx,opd_ok hs (holds_nil _) hy,Instr.storeAt,Instr.sureAddr,storeVar,run_sizeOf' hi,hsz,hv,storeCells,add_none,hst]
theorem Eff.buildSlice {t e : TypeId} {len : Nat} {xs : List (Nat × Operand)} {parts : Array (Nat × Value)} {cells : Array Value} (ho : o.op = .buildSlice t len xs.toArray) (hx : (xs.map fun p => (opd Γ [] p.2).map fun v => (p.1,v)) = parts.toList.map some)
  (hrun : ∀ w,(Instr.buildSlice t len parts).run C.P w = .ok (.slice (some ⟨w.heap.size,0,none⟩) len len) (w.alloc (.cells cells e (0,0)))) :
  Eff C R O Γ o Nat (fun b => .slice (some ⟨b,0,none⟩) len len) (fun b => (b,.cells cells e (0,0)) :: O) (fun b => C.w0.heap.size ≤ b ∧ b ∉ O.map (·.1)) := by
 refine Eff.of_run fun a w hs hp => ⟨w.heap.size,w.alloc (.cells cells e (0,0)),⟨hp.ext.size,hp.fresh (Nat.le_refl _)⟩,?_,hp.alloc _⟩
 have hm : ∀ (xs : List (Nat × Operand)) (ps : List (Nat × Value)),(xs.map fun p => (opd Γ [] p.2).map fun v => (p.1,v)) = ps.map some → xs.map (fun p => (p.1,a.eval p.2)) = ps := by
  intro xs
  induction xs with
  | nil => intro ps h; cases ps with
   | nil => rfl
   | cons _ _ => simp at h
  | cons x xs ih =>
   intro ps h
   cases ps with
   | nil => simp at h
   | cons q ps =>
    simp only [List.map_cons,List.cons.injEq] at h
    obtain ⟨h1,h2⟩ := h
    obtain ⟨v,hv,hq⟩ := Option.map_eq_some_iff.1 h1
    rw [List.map_cons,ih ps h2,opd_ok hs (holds_nil _) hv,hq]
 have := hm xs parts.toList hx
 have h2 : (xs.toArray.map fun x => match x with | (i,x) => (i,a.eval x)) = parts := by
  apply Array.ext'
  rw [← this]; simp
 simp only [execOp,ho]
 rw [show (xs.toArray.map fun x => match x with | (i,x) => (i,a.eval x)) = parts from h2]
 exact run_v (hrun w)
theorem Eff.quiet {raw : Bool} {orc : Option Value} {v : Value} {nd : (World → Prop) → List Prop} (he : ∀ S,evOp C.P S Γ [] o raw orc = some (v,nd S)) (hn : All (nd (HP C.w0 C.M R O))) (hsel : (match o.op with | .select .. => false | _ => true) = true) :
  Eff C R O Γ o Unit (fun _ => v) (fun _ => O) (fun _ => True) := by
 refine Eff.of_run fun a w hs hp => ⟨(),w,trivial,?_,hp⟩
 exact evOp_ok hs (holds_nil _) (he _) hn.mem (fun cs b hh => by simp [hh] at hsel) w hp
end
end K
end Go.Proofs.YtojefiolcedigaaGreatDoor
namespace Go.Proofs.YtojefiolcedigaaGreatDoor
namespace K
theorem notT {b : Bool} (h : (!b) = true) : b = false := by cases b <;> simp_all
theorem notF {b : Bool} (h : (!b) = false) : b = true := by cases b <;> simp_all
theorem andT1 {a b : Bool} (h : (a && b) = true) : a = true := by cases a <;> simp_all
theorem andT2 {a b : Bool} (h : (a && b) = true) : b = true := by cases a <;> simp_all
theorem orT {a b : Bool} (h : (a || b) = true) : a = true ∨ b = true := by cases a <;> simp_all
theorem orF1 {a b : Bool} (h : (a || b) = false) : a = false := by cases a <;> simp_all
theorem orF2 {a b : Bool} (h : (a || b) = false) : b = false := by cases a <;> simp_all
theorem boolV {a b : Bool} (h : (Value.bool a) = .bool b) : a = b := Value.bool.inj h
section
variable {C : Cx} {R O : List (Nat × Obj)} {Γ Γ' : Env} {ks ks' : List KI} {ops : Array Oper}
theorem Conv.mk (h : (Γ'.map fun e => find Γ e.1) = Γ'.map fun e => some e.2) : Conv Γ Γ' := by
 induction Γ' with
 | nil => trivial
 | cons e Γ' ih =>
  simp only [List.map_cons,List.cons.injEq] at h
  exact ⟨h.1,ih h.2⟩
theorem Conv.cfg (h : Conv Γ Γ') (hc : Cfg C R O Γ' ks) : Cfg C R O Γ ks := fun a w hs hp => hc a w (h.st hs) hp
theorem St.known {n : Nat} {D : List Deferred} {a : Act} (hs : St n D Γ a) (t : Nat) {b : Bool} (hf : find Γ t = some ([],.bool b)) (c : Bool) (hb : b = c) : St n D (put Γ t [] (.bool c)) a := by
 refine ⟨hs.size,hs.dfr,fun e he => ?_⟩
 rcases List.mem_cons.1 he with rfl | he
 ·refine ⟨fun _ => ?_,fun h => absurd (holds_nil _) h⟩
  have := (hs.sl _ (find_mem hf)).1 (holds_nil _)
  rw [← hb]; exact this
 ·exact hs.sl e (List.mem_filter.1 he).1
theorem CfgL.known {rest : List Oper} (t : Nat) {b : Bool} (hf : find Γ t = some ([],.bool b)) (c : Bool) (hb : b = c) (h : CfgL C R O (put Γ t [] (.bool c)) ops rest ks) : CfgL C R O Γ ops rest ks := fun a w hs hp => h a w (hs.known t hf c hb) hp
theorem CfgA.known {Os : List (Nat × Obj)} {fuel : Nat} {l : Array Bool} (t : Nat) {b : Bool} (hf : find Γ t = some ([],.bool b)) (c : Bool) (hb : b = c) (h : CfgA C R Os O (put Γ t [] (.bool c)) ops fuel l ks) : CfgA C R Os O Γ ops fuel l ks := fun a w hs hp => h a w (hs.known t hf c hb) hp
theorem Cfg.setO {O' : List (Nat × Obj)} (h : O = O') (hc : Cfg C R O' Γ ks) : Cfg C R O Γ ks := by rw [h]; exact hc
theorem CfgL.setO {O' : List (Nat × Obj)} {rest : List Oper} (h : O = O') (hc : CfgL C R O' Γ ops rest ks) : CfgL C R O Γ ops rest ks := by rw [h]; exact hc
theorem CfgA.setO {O' Os : List (Nat × Obj)} {fuel : Nat} {l : Array Bool} (h : O = O') (hc : CfgA C R Os O' Γ ops fuel l ks) : CfgA C R Os O Γ ops fuel l ks := by rw [h]; exact hc
theorem Cfg.setG (h : Γ = Γ') (hc : Cfg C R O Γ' ks) : Cfg C R O Γ ks := by rw [h]; exact hc
def CfgI (C : Cx) (R Os O : List (Nat × Obj)) (Γ : Env) (ops : Array Oper) (fuel : Nat) (l : Array Bool) (i : Nat) (ks : List KI) : Prop :=
 ∀ a w,St C.fn.ntmps C.D Γ a → HP C.w0 C.M R O w → wpOp C.P ops (C.Q ks) i (fun a' w' => HP C.w0 C.M R Os w' ∧ wpAnyH C.P .any ops (C.Q ks) (HP C.w0 C.M R Os) fuel (l.setIfInBounds i true) a' w') a w
theorem CfgA.two {Os : List (Nat × Obj)} {fuel fuel' : Nat} {l : Array Bool} (i j : Nat) (hr : Region.ready .any ops l = [i,j]) (hf : fuel = fuel' + 1) (h1 : CfgI C R Os O Γ ops fuel' l i ks) (h2 : CfgI C R Os O Γ ops fuel' l j ks) : CfgA C R Os O Γ ops fuel l ks := by
 subst hf
 intro a w hs hp
 refine wpAnyH_all hr (by simp) ?_
 intro k hk
 simp only [List.mem_cons,List.not_mem_nil,or_false] at hk
 rcases hk with rfl | rfl
 ·exact h1 a w hs hp
 ·exact h2 a w hs hp
theorem CfgI.eff {Os : List (Nat × Obj)} {fuel : Nat} {l : Array Bool} {i : Nat} {o : Oper} (ho : ops[i]? = some o) (hd : DstOk C.fn.ntmps o = true) (hg : guardV Γ ops o = guardW o)
  {ι : Type} {V : ι → Value} {O' : ι → List (Nat × Obj)} {F : ι → Prop} (he : Eff C R O Γ o ι V O' F) (hO : ∀ x,F x → Os.Sublist (O' x))
  (h : ∀ x,F x → CfgA C R Os (O' x) (putO Γ o.dst (V x)) ops fuel (l.setIfInBounds i true) ks) : CfgI C R Os O Γ ops fuel l i ks := by
 intro a w hs hp
 unfold wpOp
 simp only [ho,goes_wanted hs hg,if_true]
 exact .inl (he a w hs hp _ _ (fun x w' hx hp' => ⟨hp'.sub (hO x hx),h x hx _ w' (putO_ok hs (DstOk.lt hd)) hp'⟩))
theorem Cfg.condT {c : Operand} {x y : Code} (hk : K.nrm 99 ks = .inl (.cond c x y) :: ks') {b : Bool} (hc : opd Γ [] c = some (.bool b)) (hb : b = true) (h : Cfg C R O Γ (.inl x :: ks')) : Cfg C R O Γ ks :=
 Cfg.cond hk hc (fun _ => h) (fun hf => by rw [hb] at hf; cases hf)
theorem Cfg.condF {c : Operand} {x y : Code} (hk : K.nrm 99 ks = .inl (.cond c x y) :: ks') {b : Bool} (hc : opd Γ [] c = some (.bool b)) (hb : b = false) (h : Cfg C R O Γ (.inl y :: ks')) : Cfg C R O Γ ks :=
 Cfg.cond hk hc (fun hf => by rw [hb] at hf; cases hf) (fun _ => h)
theorem HP.mut {w0 w w' : World} {M : List Nat} (h : HP w0 M R O w) (i : Nat) {b : Nat} {o o' : Obj} (hi : O[i]? = some (b,o)) (hx : Ext [b] w w') (hb : w'.heap[b]? = some o') : HP w0 M R (O.set i (b,o')) w' := by
 have h1 : HP w0 M R (O.eraseIdx i) w' := h.call hx _ (List.eraseIdx_sublist ..) (by
  intro k hk
  simp only [List.mem_cons,List.not_mem_nil,or_false] at hk
  subst hk
  exact List.mem_map.2 ⟨_,List.mem_of_getElem? hi,rfl⟩) (by
  intro e he hm
  simp only [List.mem_cons,List.not_mem_nil,or_false] at hm
  obtain ⟨j,hj⟩ := List.mem_iff_getElem?.1 he
  rw [List.getElem?_eraseIdx] at hj
  split at hj
  ·rename_i hlt
   have := nodup_inj h.dist (i := j) (j := i) (x := b) (by simp [hj,hm]) (by simp [hi])
   omega
  ·rename_i hlt
   have := nodup_inj h.dist (i := j + 1) (j := i) (x := b) (by simp [hj,hm]) (by simp [hi])
   omega)
 have hlt : i < O.length := (List.getElem?_eq_some_iff.1 hi).1
 have hmap : (O.set i (b,o')).map (·.1) = O.map (·.1) := by
  apply List.ext_getElem?
  intro j
  rw [List.map_set,List.getElem?_set]
  by_cases hij : i = j
  ·subst hij; simp [hlt]; have := (List.getElem?_eq_some_iff.1 hi).2; rw [this]
  ·rw [if_neg hij]
 have hmem : ∀ e ∈ O.set i (b,o'),e = (b,o') ∨ e ∈ O.eraseIdx i := by
  intro e he
  obtain ⟨j,hj⟩ := List.mem_iff_getElem?.1 he
  rw [List.getElem?_set] at hj
  by_cases hij : i = j
  ·subst hij; simp [hlt] at hj; exact .inl hj.symm
  ·rw [if_neg hij] at hj
   refine .inr (List.mem_iff_getElem?.2 ?_)
   by_cases hlt' : j < i
   ·exact ⟨j,by rw [List.getElem?_eraseIdx,if_pos hlt']; exact hj⟩
   ·exact ⟨j - 1,by rw [List.getElem?_eraseIdx,if_neg (by omega),show j - 1 + 1 = j by omega]; exact hj⟩
 refine ⟨h1.ext,h1.ro,h1.rod,fun e he => ?_,by rw [hmap]; exact h.dist,fun e he => ?_⟩
 ·rcases hmem e he with rfl | he
  ·exact hb
  ·exact h1.own e he
 ·rcases hmem e he with rfl | he
  ·exact h.mine (b,o) (List.mem_of_getElem? hi)
  ·exact h1.mine e he
theorem Eff.callA {o : Oper} {f : FuncId} {fn : Func} {c : Code} {xs : List Operand} {tys : Array TypeId} {vs : List Value} (v : Value) (ho : o.op = .call ⟨.value (.func f),xs.toArray,tys⟩) (hf : C.P.funcs[f]? = some fn)
  (hnm : (fn.name == "runtime.NumGoroutine") = false) (hb : fn.body = some c) (hx : opds Γ xs = some vs)
  (h : ∀ w,HP C.w0 C.M R O w → Calls C.P f vs.toArray w fun e w' => e = .returned v ∧ Ext [] w w') : Eff C R O Γ o Unit (fun _ => v) (fun _ => O) (fun _ => True) :=
 Eff.call ho hf hnm hb hx fun w hp => (h w hp).mono fun _ _ hh => ⟨(),trivial,hh.1,hp.calm hh.2⟩
theorem Eff.callM {o : Oper} {f : FuncId} {fn : Func} {c : Code} {xs : List Operand} {tys : Array TypeId} {vs : List Value} (v : Value) (i : Nat) {b : Nat} {ob : Obj} (ob' : Obj) (ho : o.op = .call ⟨.value (.func f),xs.toArray,tys⟩) (hf : C.P.funcs[f]? = some fn)
  (hnm : (fn.name == "runtime.NumGoroutine") = false) (hb : fn.body = some c) (hx : opds Γ xs = some vs) (hi : O[i]? = some (b,ob))
  (h : ∀ w,HP C.w0 C.M R O w → Calls C.P f vs.toArray w fun e w' => e = .returned v ∧ Ext [b] w w' ∧ w'.heap[b]? = some ob') : Eff C R O Γ o Unit (fun _ => v) (fun _ => O.set i (b,ob')) (fun _ => True) :=
 Eff.call ho hf hnm hb hx fun w hp => (h w hp).mono fun _ _ hh => ⟨(),trivial,hh.1,hp.mut i hi hh.2.1 hh.2.2⟩
theorem Eff.callN {o : Oper} {f : FuncId} {fn : Func} {c : Code} {xs : List Operand} {tys : Array TypeId} {vs : List Value} {ι : Type} (V : ι → Value) (B : ι → Nat) (ob : ι → Obj) (F : ι → Prop) (ho : o.op = .call ⟨.value (.func f),xs.toArray,tys⟩) (hf : C.P.funcs[f]? = some fn)
  (hnm : (fn.name == "runtime.NumGoroutine") = false) (hb : fn.body = some c) (hx : opds Γ xs = some vs)
  (h : ∀ w,HP C.w0 C.M R O w → Calls C.P f vs.toArray w fun e w' => ∃ x,F x ∧ e = .returned (V x) ∧ w.heap.size ≤ B x ∧ w'.heap[B x]? = some (ob x) ∧ Ext [] w w') :
  Eff C R O Γ o ι V (fun x => (B x,ob x) :: O) (fun x => F x ∧ C.w0.heap.size ≤ B x ∧ B x ∉ O.map (·.1)) :=
 Eff.call ho hf hnm hb hx fun w hp => (h w hp).mono fun _ _ hh => by
  obtain ⟨x,hF,he,hs,hg,hE⟩ := hh
  exact ⟨x,⟨hF,Nat.le_trans hp.ext.size hs,hp.fresh hs⟩,he,(hp.calm hE).add hg (hp.fresh hs) (.inl (Nat.le_trans hp.ext.size hs))⟩
end
end K
end Go.Proofs.YtojefiolcedigaaGreatDoor
namespace Go.Proofs.YtojefiolcedigaaGreatDoor
namespace K
def bv (l : List UInt8) : Array Value := (l.map fun b => Value.int .u8 b.toNat).toArray
theorem bv_size (l : List UInt8) : (bv l).size = l.length := by simp [bv]
theorem bv_get {l : List UInt8} {n i : Nat} (hl : l.length = n) (h : i < n) : (bv l)[i]? = some (.int .u8 ((l.getD i 0).toNat : Int)) := by
 have h' : i < l.length := by omega
 simp [bv,List.getElem?_eq_getElem h']
theorem bv_set {l : List UInt8} {i : Nat} {x : Int} (h0 : 0 ≤ x) (h1 : x ≤ 255) : (bv l).setIfInBounds i (.int .u8 x) = bv (l.set i (UInt8.ofNat x.toNat)) := by
 apply Array.ext'
 simp [bv,List.map_set]
 rw [show max x 0 % 256 = x by omega]
section
variable {P : Program} {w0 w : World} {M : List Nat} {R O : List (Nat × Obj)}
theorem load_row {g n : Nat} {t ty : TypeId} {cs : Array Value} {fr : Nat × Nat} {d : TypeDesc} (hg : w.heap[g]? = some (.cells cs t fr)) (hu : P.underlying ty = some d) (hd : (match d with | .struct _ | .array _ _ => true | _ => false) = true)
  (hi : (P.info? ty).map (·.size) = some n) (hn : cs.size = n) : (loadVar ty ⟨g,0,none⟩).run P w = .ok (.agg cs) w :=
 run_loadVar_row w g t ty cs fr d hg hu hd (by rw [hn]; exact hi)
theorem HP.oload (h : HP w0 M R O w) (i : Nat) {b n : Nat} {ty t : TypeId} {cs : Array Value} {fr : Nat × Nat} {d : TypeDesc} (ho : O[i]? = some (b,.cells cs t fr)) (hu : P.underlying ty = some d) (hd : (match d with | .struct _ | .array _ _ => true | _ => false) = true)
  (hi : (P.info? ty).map (·.size) = some n) (hn : cs.size = n) : (loadVar ty ⟨b,0,none⟩).run P w = .ok (.agg cs) w :=
 load_row (h.own _ (List.mem_of_getElem? ho)) hu hd hi hn
theorem run_loadCellsFrom {b off : Nat} (f : Nat → Value) : ∀ (n i : Nat) (acc : Array Value),(∀ j,i ≤ j → j < i + n → w.cell? ⟨b,off + j,none⟩ = some (f j)) →
  (loadCellsFrom ⟨b,off,none⟩ i n acc).run P w = .ok (acc ++ ((List.range' i n).map f).toArray) w
 | 0,i,acc,_ => by simp [loadCellsFrom]
 | n + 1,i,acc,h => by
  have h0 := h i (Nat.le_refl _) (by omega)
  have hl : (load (Addr.add ⟨b,off,none⟩ i)).run P w = .ok (f i) w := by
   rw [add_none]; simp [load,Sem.run,h0]
  have ih := run_loadCellsFrom f n (i + 1) (acc.push (f i)) (fun j h1 h2 => h j (by omega) (by omega))
  unfold loadCellsFrom
  simp only [Sem.run_bind,hl,Result.andThen_ok,ih,List.range'_succ,List.map_cons]
  congr 1
  apply Array.ext'
  simp
theorem run_loadCells {b off n : Nat} (f : Nat → Value) (h : ∀ j,j < n → w.cell? ⟨b,off + j,none⟩ = some (f j)) : (loadCells ⟨b,off,none⟩ n).run P w = .ok ((List.range n).map f).toArray w := by
 have := run_loadCellsFrom (P := P) (w := w) (b := b) (off := off) f n 0 #[] (fun j _ hj => h j (by omega))
 simpa [loadCells,List.range_eq_range'] using this
theorem foldl_push (l : List UInt8) : ∀ (s : ByteArray),(l.map fun b => (b.toNat : Int)).foldl (fun r n => r.push (UInt8.ofNat n.toNat)) s = ⟨s.data ++ l.toArray⟩ := by
 induction l with
 | nil => intro s; simp
 | cons x l ih =>
  intro s
  simp only [List.map_cons,List.foldl_cons,ih]
  congr 1
  apply Array.ext'
  simp [ByteArray.push]
theorem bytes_str {b off n c : Nat} {l : List UInt8} (hl : l.length = n) (h : ∀ j,j < n → w.cell? ⟨b,off + j,none⟩ = some (.int .u8 ((l.getD j 0).toNat : Int))) :
  (Conv.bytesToString (.slice (some ⟨b,off,none⟩) n c)).run P w = .ok (.string ⟨l.toArray⟩) w := by
 have h1 := run_loadCells (P := P) (w := w) (b := b) (off := off) (n := n) (fun j => .int .u8 ((l.getD j 0).toNat : Int)) h
 have h2 : ((List.range n).map fun j => Value.int .u8 ((l.getD j 0).toNat : Int)) = (l.map fun b => (b.toNat : Int)).map (Value.int .u8) := by
  apply List.ext_getElem?
  intro i
  by_cases hi : i < n
  ·have hi' : i < l.length := by omega
   simp [hi,List.getElem?_eq_getElem hi']
  ·have hi' : l.length ≤ i := by omega
   simp [hi,List.getElem?_eq_none hi']
 rw [h2] at h1
 rw [run_bytesToString w _ n c _ h1,foldl_push]
 simp [ByteArray.empty,ByteArray.emptyWithCapacity]
 rfl
theorem HP.ostr (h : HP w0 M R O w) (i : Nat) {b n c : Nat} {t : TypeId} {fr : Nat × Nat} {l : List UInt8} (ho : O[i]? = some (b,.cells (bv l) t fr)) (hl : l.length = n) :
  (Conv.bytesToString (.slice (some ⟨b,0,none⟩) n c)).run P w = .ok (.string ⟨l.toArray⟩) w :=
 bytes_str hl fun j hj => by rw [Nat.zero_add]; exact h.ocell i ho (bv_get hl hj)
def spl (cs : Array Value) (off : Nat) : List Value → Array Value
 | [] => cs
 | v :: vs => spl (cs.setIfInBounds off v) (off + 1) vs
theorem spl_list (A B C : List Value) : ∀ (vs : List Value),vs.length = B.length → spl (A ++ B ++ C).toArray A.length vs = (A ++ vs ++ C).toArray := by
 induction B generalizing A with
 | nil => intro vs h; cases vs with
  | nil => rfl
  | cons _ _ => simp at h
 | cons x B ih =>
  intro vs h
  cases vs with
  | nil => simp at h
  | cons v vs =>
   have := ih (A ++ [v]) vs (by simpa using h)
   simp only [spl]
   have e : (A ++ (x :: B) ++ C).toArray.setIfInBounds A.length v = (A ++ [v] ++ B ++ C).toArray := by
    apply Array.ext'
    simp
   rw [e]
   simpa using this
theorem spl_all {cs vs : Array Value} (h : vs.size = cs.size) : spl cs 0 vs.toList = vs := by
 have := spl_list [] cs.toList [] vs.toList (by simpa using h)
 simpa using this
theorem run_storeCells {b off : Nat} {t : TypeId} : ∀ (vs : List Value) (i : Nat) (cs : Array Value) (w : World),w.heap[b]? = some (.cells cs t (0,0)) → off + i + vs.length ≤ cs.size → (∀ v ∈ vs,one v = true) →
  ∃ w',(storeCells ⟨b,off,none⟩ vs i).run P w = .ok () w' ∧ w'.heap = w.heap.setIfInBounds b (.cells (spl cs (off + i) vs) t (0,0)) ∧ w'.os = w.os ∧ w'.tape = w.tape ∧ w'.output = w.output
 | [],i,cs,w,hb,_,_ => by
  refine ⟨w,rfl,?_,rfl,rfl,rfl⟩
  simp only [spl]
  apply Array.ext_getElem?
  intro k
  have hlt := lt_of_get hb
  by_cases hk : b = k
  ·subst hk; rw [hb]; simp [hlt]
  ·simp [hk]
 | v :: vs,i,cs,w,hb,hl,h1 => by
  have hi : off + i < cs.size := by simp at hl; omega
  have hc : w.cell? ⟨b,off + i,none⟩ = some (cs[off + i]) := by rw [cell_cells hb]; exact Array.getElem?_eq_getElem hi
  have hfz : w.frozen? ⟨b,off + i,none⟩ = false := by simp [World.frozen?,hb]
  have hv1 := h1 v (List.mem_cons_self ..)
  have hst : (store (Addr.add ⟨b,off,none⟩ i) v).run P w = .ok () (w.setCell ⟨b,off + i,none⟩ v) := by
   rw [add_none]
   unfold store
   cases v <;> simp [K.one] at hv1 <;> simp [Sem.run,hc,hfz]
  have hh := setCell_heap (off := off + i) (v := v) hb
  have hb' : (w.setCell ⟨b,off + i,none⟩ v).heap[b]? = some (.cells (cs.setIfInBounds (off + i) v) t (0,0)) := by rw [hh]; simp [lt_of_get hb]
  obtain ⟨w',hr,hw,h2,h3,h4⟩ := run_storeCells (off := off) vs (i + 1) _ _ hb' (by simp at hl ⊢; omega) (fun x hx => h1 x (List.mem_cons_of_mem _ hx))
  refine ⟨w',?_,?_,h2,h3,h4⟩
  ·unfold storeCells
   simp only [Sem.run_bind,hst,Result.andThen_ok,hr]
  ·rw [hw,hh]
   simp only [spl]
   apply Array.ext_getElem?
   intro k
   by_cases hk : b = k
   ·subst hk; simp [lt_of_get hb,Nat.add_assoc]
   ·simp [hk]
theorem all_bv (l : List UInt8) : ∀ v ∈ (bv l).toList,one v = true := by
 intro v hv
 simp only [bv,List.mem_map] at hv
 obtain ⟨x,_,rfl⟩ := hv
 rfl
theorem equal_bv {t e : TypeId} {n : Nat} (ht : P.underlying t = some (.array n e)) (he : P.underlying e = some (.int .u8)) (hsz : (P.info? e).map (·.size) = some 1) {xs ys : List UInt8} (hx : xs.length = n) (hy : ys.length = n) :
  (Op.equal t (.agg (bv xs)) (.agg (bv ys))).run P w = .ok (xs == ys) w := by
 obtain ⟨inf,hi,hs⟩ := Option.map_eq_some_iff.1 hsz
 exact run_equalIn_bytes w 9998 t e n ht he (fun w => by rw [run_sizeOf' hi,hs]) xs ys hx hy
variable {C : Cx} {Γ : Env} {o : Oper}
theorem Eff.storeN {t : TypeId} {x y : Operand} {b off : Nat} {vs : Array Value} (ho : o.op = .store t x y) (hx : opd Γ [] x = some (.pointer (some ⟨b,off,none⟩))) (hy : opd Γ [] y = some (.agg vs)) {n : Nat}
  (hsz0 : (C.P.info? t).map (·.size) = some n) (hn : vs.size = n) (h1 : ∀ v ∈ vs.toList,one v = true) (i : Nat) {cs : Array Value} {e : TypeId} (hO : O[i]? = some (b,.cells cs e (0,0))) (hoff : off + n ≤ cs.size) :
  Eff C R O Γ o Unit (fun _ => undef) (fun _ => O.set i (b,.cells (spl cs off vs.toList) e (0,0))) (fun _ => True) := by
 refine Eff.of_skip fun a w hs hp => ?_
 obtain ⟨inf,hi,hsz⟩ := Option.map_eq_some_iff.1 hsz0
 have hb := hp.own _ (List.mem_of_getElem? hO)
 obtain ⟨w',hr,hw,h2,h3,h4⟩ := run_storeCells (P := C.P) (off := off) vs.toList 0 cs w hb (by simp; omega) h1
 refine ⟨(),w',trivial,?_,hp.set i _ hO hw h2 h3 h4⟩
 have hsz' : vs.size = inf.size := by omega
 simp [execOp,ho,opd_ok hs (holds_nil _) hx,opd_ok hs (holds_nil _) hy,Instr.storeAt,Instr.sureAddr,storeVar,run_sizeOf' hi,hsz',Value.cells,hr]
end
end K
end Go.Proofs.YtojefiolcedigaaGreatDoor
namespace Go.Proofs.YtojefiolcedigaaGreatDoor
namespace K
abbrev Own := Option (Nat × Nat × List Value)
def Own.a : Own → Option Addr
 | none => none
 | some p => some ⟨p.1,0,none⟩
def Own.c : Own → Nat
 | none => 0
 | some p => p.2.1
def Own.o (e : TypeId) (xs : List Value) : Own → List (Nat × Obj)
 | none => []
 | some p => [(p.1,.cells (xs ++ p.2.2).toArray e (0,0))]
structure OwnOk (o : Own) (sz n : Nat) (xs : List Value) : Prop where
 len : xs.length = n * sz
 nil : o = none → n = 0
 some : ∀ p,o = some p → xs.length + p.2.2.length = p.2.1 * sz ∧ n ≤ p.2.1
theorem OwnOk.none (sz : Nat) : OwnOk none sz 0 [] := ⟨by simp,fun _ => rfl,fun _ h => by cases h⟩
theorem zeroCells_size (z : Array Value) (n : Nat) : (Builtin.zeroCells z n).size = n * z.size := by simp [Builtin.zeroCells]
section
variable {C : Cx} {R O : List (Nat × Obj)} {Γ : Env} {op : Oper}
theorem one_cell {v : Value} (h : one v = true) : v.oneCell' = true := by cases v <;> first | rfl | simp [K.one] at h
theorem setRow_get {w : World} {g : Nat} {cur cs : Array Value} {e : TypeId} (hg : w.heap[g]? = some (.cells cur e (0,0))) : (w.setRow g cs).heap = w.heap.setIfInBounds g (.cells cs e (0,0)) := by
 apply Array.ext_getElem?
 intro k
 by_cases hk : g = k
 ·subst hk
  rw [setRow_heap w g cur cs e _ hg]; simp [lt_of_get hg]
 ·rw [setRow_other w g k cs (fun h => hk h.symm)]; simp [hk]
theorem Eff.append {t e : TypeId} {x1 x2 : Operand} (ho : op.op = .call ⟨.builtin .append,#[x1,x2],#[t,t]⟩) (sz bytes : Nat) (ht : C.P.underlying t = some (.slice e)) (hsz : (C.P.info? e).map (fun i => (i.size,i.bytes)) = some (sz,bytes))
  {z : Value} (hz0 : (C.P.info? e).bind (·.zero) = some z) (hzs : z.cells.size = sz) (own : Own) {n : Nat} {xs : List Value} (hok : OwnOk own sz n xs) (h1 : opd Γ [] x1 = some (.slice own.a n own.c))
  {b2 off2 m c2 : Nat} (h2 : opd Γ [] x2 = some (.slice (some ⟨b2,off2,none⟩) m c2)) (news : List Value) (hl : news.length = m * sz) (hone : ∀ v ∈ news,one v = true)
  (hsrc : ∀ w,HP C.w0 C.M R O w → ∀ j v,news[j]? = some v → w.cell? ⟨b2,off2 + j,none⟩ = some v) (O1 : List (Nat × Obj)) (hO : O = own.o e xs ++ O1) (hroom : (n + m) * bytes ≤ 140737488355328) (h63 : n + m ≤ 9223372036854775807) :
  Eff C R O Γ op Own (fun o => .slice o.a (n + m) o.c) (fun o => o.o e (xs ++ news) ++ O1) (fun o => OwnOk o sz (n + m) (xs ++ news)) := by
 refine Eff.of_run fun a w hs hp => ?_
 obtain ⟨inf,hi,hse⟩ := Option.map_eq_some_iff.1 hsz
 obtain ⟨inf',hi',hz⟩ := Option.bind_eq_some_iff.1 hz0
 rw [hi] at hi'
 simp only [Option.some.injEq] at hi'
 subst hi'
 simp only [Prod.mk.injEq] at hse
 obtain ⟨rfl,rfl⟩ := hse
 have hnews : ∀ j v,news[j]? = some v → w.cell? (Addr.add ⟨b2,off2,none⟩ j) = some v := fun j v hj => by rw [add_none]; exact hsrc w hp j v hj
 have hlen : (xs ++ news).length = (n + m) * inf.size := by rw [List.length_append,hok.len,hl,Nat.add_mul]
 have hex : ∀ {v : Value} {w' : World},(Builtin.append_ #[t,t] op.type #[a.eval x1,a.eval x2]).run C.P w = .ok v w' → (execOp a.eval op).run C.P w = .ok (.value v) w' := by
  intro v w' h
  simp [execOp,ho,resolve,invoke,builtin,h]
 have e1 := opd_ok hs (holds_nil _) h1
 have e2 := opd_ok hs (holds_nil _) h2
 have fresh : ∀ (c : Nat),n + m ≤ c → HP C.w0 C.M R O1 w → HP C.w0 C.M R (Own.o e (xs ++ news) (some (w.heap.size,c,(Builtin.zeroCells z.cells (c - (n + m))).toList)) ++ O1) (w.drew.alloc (.cells (xs.toArray ++ news.toArray ++ Builtin.zeroCells z.cells (c - (n + m))) e)) ∧
   OwnOk (some (w.heap.size,c,(Builtin.zeroCells z.cells (c - (n + m))).toList)) inf.size (n + m) (xs ++ news) := by
  intro c hc hp1
  have hp2 := (hp1.calm (ext_drew w)).alloc (.cells (xs.toArray ++ news.toArray ++ Builtin.zeroCells z.cells (c - (n + m))) e (0,0))
  refine ⟨?_,hlen,fun h => (by cases h),fun p hp' => ?_⟩
  ·have e3 : (xs.toArray ++ news.toArray ++ Builtin.zeroCells z.cells (c - (n + m))) = (xs ++ news ++ (Builtin.zeroCells z.cells (c - (n + m))).toList).toArray := by
    apply Array.ext'
    simp
   rw [e3] at hp2 ⊢
   exact hp2
  ·simp only [Option.some.injEq] at hp'
   subst hp'
   refine ⟨?_,hc⟩
   simp only [Array.length_toList,zeroCells_size,hzs,hlen,← Nat.add_mul]
   congr 1
   omega
 cases own with
 | none =>
  have hn := hok.nil rfl
  subst hn
  have hx : xs = [] := List.eq_nil_of_length_eq_zero (by simpa using hok.len)
  subst hx
  simp only [Own.o,List.nil_append] at hO
  subst hO
  by_cases hm : m = 0
  ·subst hm
   have hnn : news = [] := List.eq_nil_of_length_eq_zero (by simpa using hl)
   subst hnn
   refine ⟨none,w,OwnOk.none _,hex ?_,hp⟩
   rw [e1,e2]
   simp [Builtin.append_,run_underlying' ht,run_sizeOf' hi,Builtin.lenOf,Builtin.firstCells,loadCells,loadCellsFrom,Own.a,Own.c]
  ·obtain ⟨f1,f2⟩ := fresh (grownCap w m 0 e) (by have := grownCap_ge w m 0 e; omega) hp
   refine ⟨some (w.heap.size,grownCap w m 0 e,_),_,f2,hex ?_,f1⟩
   rw [e1,e2]
   have hr := run_append_nil (P := C.P) w t op.type e inf z ht hi hz ⟨b2,off2,none⟩ m c2 news hl hnews (by omega) (by omega) (by simp only [Nat.zero_add] at hroom; omega)
   simp only [Own.a,Own.c,Nat.zero_add,Array.empty_append] at hr ⊢
   exact hr
 | some p =>
  obtain ⟨b,cap,junk⟩ := p
  obtain ⟨hj,hnc⟩ := hok.some _ rfl
  simp only at hj hnc
  have hget : O[0]? = some (b,.cells (xs ++ junk).toArray e (0,0)) := by rw [hO]; rfl
  have hb := hp.own _ (List.mem_of_getElem? hget)
  have hp1 : HP C.w0 C.M R O1 w := hp.sub (by rw [hO]; exact List.sublist_append_right _ _)
  by_cases hr : n + m ≤ cap
  ·have hfit : n * inf.size + news.length ≤ (xs ++ junk).toArray.size := by
    simp only [List.size_toArray,List.length_append,hj,hl,← Nat.add_mul]
    exact Nat.mul_le_mul_right _ hr
   have hrun := Go.run_append_room (P := C.P) w t op.type e inf ht hi b n cap (xs ++ junk).toArray hb ⟨b2,off2,none⟩ m c2 news hl hnews (fun u hu => one_cell (hone u hu)) hr hfit
   have e3 : ((xs ++ junk).toArray.toList.take (n * inf.size) ++ news ++ (xs ++ junk).toArray.toList.drop (n * inf.size + news.length)) = xs ++ news ++ junk.drop news.length := by
    rw [← hok.len]
    simp [List.drop_append,List.drop_eq_nil_of_le (show xs.length ≤ xs.length + news.length by omega)]
   rw [e3] at hrun
   refine ⟨some (b,cap,junk.drop news.length),_,⟨hlen,fun h => (by cases h),fun p hp' => ?_⟩,hex (by rw [e1,e2]; exact hrun),?_⟩
   ·simp only [Option.some.injEq] at hp'
    subst hp'
    refine ⟨?_,hr⟩
    have hle : news.length ≤ junk.length := by
     simp only [List.size_toArray,List.length_append,← hok.len] at hfit
     omega
    simp only [List.length_append,List.length_drop]
    omega
   ·have := hp.set 0 (.cells (xs ++ news ++ junk.drop news.length).toArray e (0,0)) hget (setRow_get hb) rfl rfl rfl
    rw [hO] at this
    exact this
  ·obtain ⟨f1,f2⟩ := fresh (grownCap w (n + m) cap e) (grownCap_ge w (n + m) cap e) hp1
   have holds : ∀ j v,xs[j]? = some v → w.cell? (Addr.add ⟨b,0,none⟩ j) = some v := fun j v hjv => by
    rw [add_none,Nat.zero_add,cell_cells hb]
    have hlt : j < xs.length := (List.getElem?_eq_some_iff.1 hjv).1
    simp [List.getElem?_append_left hlt,hjv]
   have hrun := Go.run_append_grow (P := C.P) w t op.type e inf z ht hi hz ⟨b,0,none⟩ n cap xs hok.len holds ⟨b2,off2,none⟩ m c2 news hl hnews (by omega) (by omega) (growslice_fits (by omega) hroom)
   exact ⟨some (w.heap.size,grownCap w (n + m) cap e,_),_,f2,hex (by rw [e1,e2]; exact hrun),f1⟩
theorem own_some {o : Own} {sz n : Nat} {xs : List Value} (h : OwnOk o sz n xs) (hn : 0 < n) : ∃ p,o = some p := by
 cases o with
 | none => have := h.nil rfl; omega
 | some p => exact ⟨p,rfl⟩
def Has (w : World) (L : List (Nat × Obj)) : Prop := ∀ e ∈ L,w.heap[e.1]? = some e.2
theorem HP.ofHas {w : World} {L : List (Nat × Obj)} (h : Has w L) : HP w [] L [] w :=
 ⟨Ext.refl _ _,h,fun e he => ⟨lt_of_get (h e he),by simp⟩,(fun _ h => by cases h),by simp,(fun _ h => by cases h)⟩
theorem HP.has {w0 w : World} {M : List Nat} {L : List (Nat × Obj)} (h : HP w0 M R O w) (hL : ∀ e ∈ L,e ∈ O) : Has w L := fun e he => h.own e (hL e he)
theorem HP.hasR {w0 w : World} {M : List Nat} {L : List (Nat × Obj)} (h : HP w0 M R O w) (hL : ∀ e ∈ L,e ∈ R) : Has w L := fun e he => h.ro e (hL e he)
theorem HP.addOwn {w0 w w' : World} {M : List Nat} (h : HP w0 M R O w) (hx : Ext [] w w') {o : Own} {e : TypeId} {xs : List Value} (hh : Has w' (o.o e xs)) (hf : ∀ x ∈ o.o e xs,w.heap.size ≤ x.1) : HP w0 M R (o.o e xs ++ O) w' := by
 have h1 := h.calm hx
 cases o with
 | none => exact h1
 | some p =>
  have hb := hh _ (List.mem_cons_self ..)
  have hs := hf _ (List.mem_cons_self ..)
  exact h1.add hb (h.fresh hs) (.inl (Nat.le_trans h.ext.size hs))
theorem Eff.callO {f : FuncId} {fn : Func} {c : Code} {xs : List Operand} {tys : Array TypeId} {vs : List Value} (e : TypeId) (sz n : Nat) (cells : List Value) (ho : op.op = .call ⟨.value (.func f),xs.toArray,tys⟩) (hf : C.P.funcs[f]? = some fn)
  (hnm : (fn.name == "runtime.NumGoroutine") = false) (hb : fn.body = some c) (hx : opds Γ xs = some vs)
  (h : ∀ w,HP C.w0 C.M R O w → Calls C.P f vs.toArray w fun en w' => ∃ o : Own,OwnOk o sz n cells ∧ en = .returned (.slice o.a n o.c) ∧ Has w' (o.o e cells) ∧ (∀ x ∈ o.o e cells,w.heap.size ≤ x.1) ∧ Ext [] w w') :
  Eff C R O Γ op Own (fun o => .slice o.a n o.c) (fun o => o.o e cells ++ O) (fun o => OwnOk o sz n cells) :=
 Eff.call ho hf hnm hb hx fun w hp => (h w hp).mono fun _ _ hh => by
  obtain ⟨o,hok,he,h1,h2,h3⟩ := hh
  exact ⟨o,hok,he,hp.addOwn h3 h1 h2⟩
theorem HP.perm {w0 w : World} {M : List Nat} {O' : List (Nat × Obj)} (h : HP w0 M R O w) (hp : O.Perm O') : HP w0 M R O' w :=
 ⟨h.ext,h.ro,h.rod,fun e he => h.own e (hp.mem_iff.2 he),(hp.map _).nodup_iff.1 h.dist,fun e he => h.mine e (hp.mem_iff.2 he)⟩
theorem Eff.perm {O2 : List (Nat × Obj)} {ι : Type} {V : ι → Value} {O' O2' : ι → List (Nat × Obj)} {F : ι → Prop} (h : Eff C R O2 Γ op ι V O2' F) (h1 : O.Perm O2) (h2 : ∀ x,(O2' x).Perm (O' x)) : Eff C R O Γ op ι V O' F :=
 fun a w hs hp Kt Q hK => h a w hs (hp.perm h1) Kt Q (fun x w' hF hp' => hK x w' hF (hp'.perm (h2 x)))
theorem Eff.appendF {t e : TypeId} {x1 x2 : Operand} (ho : op.op = .call ⟨.builtin .append,#[x1,x2],#[t,t]⟩) (sz bytes : Nat) (ht : C.P.underlying t = some (.slice e)) (hsz : (C.P.info? e).map (fun i => (i.size,i.bytes)) = some (sz,bytes))
  {z : Value} (hz0 : (C.P.info? e).bind (·.zero) = some z) (hzs : z.cells.size = sz) (own : Own) {n : Nat} {xs : List Value} (hok : OwnOk own sz n xs) (h1 : opd Γ [] x1 = some (.slice own.a n own.c))
  {b2 off2 m c2 : Nat} (h2 : opd Γ [] x2 = some (.slice (some ⟨b2,off2,none⟩) m c2)) (news : List Value) (hl : news.length = m * sz) (hone : ∀ v ∈ news,one v = true) (Fl T : List (Nat × Obj)) (hO : O = Fl ++ (own.o e xs ++ T))
  (hsrc : ∀ w,HP C.w0 C.M R O w → ∀ j v,news[j]? = some v → w.cell? ⟨b2,off2 + j,none⟩ = some v) (hroom : (n + m) * bytes ≤ 140737488355328) (h63 : n + m ≤ 9223372036854775807) :
  Eff C R O Γ op Own (fun o => .slice o.a (n + m) o.c) (fun o => Fl ++ (o.o e (xs ++ news) ++ T)) (fun o => OwnOk o sz (n + m) (xs ++ news)) := by
 have hperm : O.Perm (own.o e xs ++ (Fl ++ T)) := by rw [hO]; exact List.perm_append_comm_assoc _ _ _
 exact (Eff.append ho sz bytes ht hsz hz0 hzs own hok h1 h2 news hl hone (fun w hp => hsrc w (hp.perm hperm.symm)) (Fl ++ T) rfl hroom h63).perm hperm (fun x => List.perm_append_comm_assoc _ _ _)
theorem Eff.callOF {f : FuncId} {fn : Func} {c : Code} {xs : List Operand} {tys : Array TypeId} {vs : List Value} (e : TypeId) (sz n : Nat) (cells : List Value) (Fl T : List (Nat × Obj)) (hO : O = Fl ++ T) (ho : op.op = .call ⟨.value (.func f),xs.toArray,tys⟩) (hf : C.P.funcs[f]? = some fn)
  (hnm : (fn.name == "runtime.NumGoroutine") = false) (hb : fn.body = some c) (hx : opds Γ xs = some vs)
  (h : ∀ w,HP C.w0 C.M R O w → Calls C.P f vs.toArray w fun en w' => ∃ o : Own,OwnOk o sz n cells ∧ en = .returned (.slice o.a n o.c) ∧ Has w' (o.o e cells) ∧ (∀ x ∈ o.o e cells,w.heap.size ≤ x.1) ∧ Ext [] w w') :
  Eff C R O Γ op Own (fun o => .slice o.a n o.c) (fun o => Fl ++ (o.o e cells ++ T)) (fun o => OwnOk o sz n cells) :=
 (Eff.callO e sz n cells ho hf hnm hb hx h).perm (List.Perm.refl _) (fun x => by rw [hO]; exact List.perm_append_comm_assoc _ _ _)
def InS (Rl : List (Nat × Obj)) (la : Option Addr) (k : Nat) (f : Nat → Value) : Prop :=
 0 < k → ∃ b off cs t fr,la = some ⟨b,off,none⟩ ∧ (b,Obj.cells cs t fr) ∈ Rl ∧ ∀ j,j < k → cs[off + j]? = some (f j)
theorem InS.mono {Rl Rl' : List (Nat × Obj)} {la : Option Addr} {k : Nat} {f : Nat → Value} (h : InS Rl la k f) (hR : ∀ e ∈ Rl,e ∈ Rl') : InS Rl' la k f := by
 intro hk
 obtain ⟨b,off,cs,t,fr,h1,h2,h3⟩ := h hk
 exact ⟨b,off,cs,t,fr,h1,hR _ h2,h3⟩
theorem has_app {w : World} {A B : List (Nat × Obj)} (ha : Has w A) (hb : Has w B) : Has w (A ++ B) := by
 intro e he
 rcases List.mem_append.1 he with h | h
 ·exact ha e h
 ·exact hb e h
theorem load_bytes {P : Program} {w : World} {b off n : Nat} {ty : TypeId} {d : TypeDesc} {l : List UInt8} (hu : P.underlying ty = some d) (hd : (match d with | .struct _ | .array _ _ => true | _ => false) = true) (hi : (P.info? ty).map (·.size) = some n) (hl : l.length = n)
  (h : ∀ j,j < n → w.cell? ⟨b,off + j,none⟩ = some (.int .u8 ((l.getD j 0).toNat : Int))) : (loadVar ty ⟨b,off,none⟩).run P w = .ok (.agg (bv l)) w := by
 obtain ⟨inf,hinf,hs⟩ := Option.map_eq_some_iff.1 hi
 have h1 := run_loadCells (P := P) (w := w) (b := b) (off := off) (n := n) (fun j => .int .u8 ((l.getD j 0).toNat : Int)) h
 have h2 : ((List.range n).map fun j => Value.int .u8 ((l.getD j 0).toNat : Int)).toArray = bv l := by
  apply Array.ext'
  simp only [bv]
  apply List.ext_getElem?
  intro i
  by_cases hi : i < n
  ·have hi' : i < l.length := by omega
   simp [hi,List.getElem?_eq_getElem hi']
  ·have hi' : l.length ≤ i := by omega
   simp [hi,List.getElem?_eq_none hi']
 rw [h2] at h1
 have h3 : (isAgg ty).run P w = .ok true w := by
  simp only [isAgg,Sem.run_bind,run_underlying' hu,Result.andThen_ok]
  cases d <;> simp_all
 have h4 : (sizeOf ty).run P w = .ok n w := by rw [run_sizeOf' hinf,hs]
 simp [loadVar,h3,h4,h1]
end
end K
end Go.Proofs.YtojefiolcedigaaGreatDoor
namespace Go.Proofs.YtojefiolcedigaaGreatDoor
namespace K
open Go.ChangeShapes Go.WideShapes
section
variable {H : Type} {enc : TypeId × Value → H} {P : Program} {w : World} {base : Nat} {spare : Nat → Bool} {held : Bool}
theorem wf_u8 {n : Int} (h : (Lit.int .u8 n).wf = true) : 0 ≤ n ∧ n ≤ 255 := by
 simp [Lit.wf,IntKind.min,IntKind.max,IntKind.signed,IntKind.bits] at h
 omega
def toB : Value → UInt8
 | .int _ n => UInt8.ofNat n.toNat
 | _ => 0
theorem trod_u8 {e : TypeId} {fuel : Nat} {v : Value} {x : DataW H × List MemPlace} (he : P.underlying e = some (.int .u8)) (h : DataW.trod enc P w base spare held fuel e [v] = some x) : v = .int .u8 ((toB v).toNat : Int) := by
 obtain ⟨n,hn,_,hw⟩ := DataW.trod_int he h
 simp only [List.cons.injEq,and_true] at hn
 subst hn
 have := wf_u8 hw
 simp only [toB,UInt8.toNat_ofNat']
 congr 1
 omega
theorem trod_bytes {t e : TypeId} {n fuel : Nat} {cs : List Value} {x : DataW H × List MemPlace} (ht : P.underlying t = some (.array n e)) (he : P.underlying e = some (.int .u8)) (hce : P.cellsOf e = 1) (hct : P.cellsOf t = n)
  (h : DataW.trod enc P w base spare held fuel t cs = some x) : (cs.map toB).length = n ∧ cs.toArray = bv (cs.map toB) := by
 obtain ⟨xs,m,_,_,hl,hx,hi⟩ := DataW.trod_array ht h
 rw [hct] at hl
 refine ⟨by simpa using hl,?_⟩
 apply Array.ext'
 simp only [bv,List.map_map]
 apply List.ext_getElem?
 intro i
 by_cases hlt : i < n
 ·have h1 := hi i hlt
  rw [hce,Nat.mul_one,List.drop_eq_getElem_cons (by omega),List.take_succ_cons,List.take_zero] at h1
  have hxs : xs[i]? = some (xs[i]'(by omega)) := List.getElem?_eq_getElem (by omega)
  rw [hxs] at h1
  have h2 := trod_u8 he h1
  rw [List.getElem?_map,List.getElem?_eq_getElem (show i < cs.length by omega),Option.map_some,Function.comp]
  rw [← h2]
 ·rw [List.getElem?_eq_none (by omega),List.getElem?_eq_none (by simp; omega)]
end
end K
end Go.Proofs.YtojefiolcedigaaGreatDoor
namespace Go.Proofs.YtojefiolcedigaaGreatDoor
namespace K
open Go.ChangeShapes Go.WideShapes
theorem InS.more {R R' : List (Nat × Obj)} {la : Option Addr} {k : Nat} {f g : Nat → Value} (h : InS R la k f) (hR : ∀ x ∈ R,x ∈ R') (hf : ∀ j,j < k → f j = g j) : InS R' la k g := by
 intro hk
 obtain ⟨b,off,cs,t,fr,h1,h2,h3⟩ := h hk
 exact ⟨b,off,cs,t,fr,h1,hR _ h2,fun j hj => by rw [h3 j hj,hf j hj]⟩
theorem Has.app {w : World} {R R' : List (Nat × Obj)} (h : Has w R) (h' : Has w R') : Has w (R ++ R') := by
 intro x hx
 rcases List.mem_append.1 hx with hx | hx
 ·exact h x hx
 ·exact h' x hx
section
variable {H : Type} {enc : TypeId × Value → H} {P : Program} {w : World} {base : Nat} {held : Bool}
theorem wf_u32 (n : Int) (h : (Lit.int .u32 n).wf = true) : 0 ≤ n ∧ n < ((4294967296 : Nat) : Int) := by
 simp [Lit.wf,IntKind.min,IntKind.max,IntKind.signed,IntKind.bits] at h
 omega
theorem wf_u64 (n : Int) (h : (Lit.int .u64 n).wf = true) : 0 ≤ n ∧ n < ((18446744073709551616 : Nat) : Int) := by
 simp [Lit.wf,IntKind.min,IntKind.max,IntKind.signed,IntKind.bits] at h
 omega
end
end K
end Go.Proofs.YtojefiolcedigaaGreatDoor
namespace Go.Proofs.YtojefiolcedigaaGreatDoor
namespace K
open Go.ChangeShapes Go.WideShapes
theorem flat_get {α : Type} (f : α → List Value) (sz : Nat) : ∀ {l : List α},(∀ x ∈ l,(f x).length = sz) → ∀ {i j : Nat} (hi : i < l.length),j < sz → (l.flatMap f)[i * sz + j]? = (f l[i])[j]?
 | [],_,i,j,hi,_ => by simp at hi
 | x :: l,h,i,j,hi,hj => by
  have hx := h x (List.mem_cons_self ..)
  rw [List.flatMap_cons]
  cases i with
  | zero => rw [Nat.zero_mul,Nat.zero_add,List.getElem?_append_left (by omega)]; rfl
  | succ i =>
   rw [List.getElem?_append_right (by rw [hx,Nat.succ_mul]; omega),hx,show (i + 1) * sz + j - sz = i * sz + j by rw [Nat.succ_mul]; omega]
   exact flat_get f sz (fun y hy => h y (List.mem_cons_of_mem _ hy)) (by simpa using hi) hj
section
variable {H : Type} {enc : TypeId × Value → H} {P : Program} {w : World} {base : Nat} {held : Bool}
end
end K
end Go.Proofs.YtojefiolcedigaaGreatDoor
namespace Go.Proofs.YtojefiolcedigaaGreatDoor
namespace K
open Go.ChangeShapes Go.WideShapes
section
variable {H : Type} {enc : TypeId × Value → H} {P : Program} {w : World} {base : Nat} {held : Bool}
end
end K
end Go.Proofs.YtojefiolcedigaaGreatDoor
namespace Go.Proofs.YtojefiolcedigaaGreatDoor
namespace K
theorem HP.startM {w : World} {R : List (Nat × Obj)} {b : Nat} {ob : Obj} (hR : Has w R) (hb : w.heap[b]? = some ob) (hn : b ∉ R.map (·.1)) : HP w [b] R [(b,ob)] w :=
 ⟨Ext.refl _ _,hR,fun e he => ⟨lt_of_get (hR e he),fun hm => hn (by
  simp only [List.mem_cons,List.not_mem_nil,or_false] at hm
  rw [← hm]; exact List.mem_map.2 ⟨e,he,rfl⟩)⟩,(fun e he => by
  simp only [List.mem_cons,List.not_mem_nil,or_false] at he
  subst he; exact hb),by simp,(fun e he => by
  simp only [List.mem_cons,List.not_mem_nil,or_false] at he
  subst he; exact .inr (List.mem_cons_self ..))⟩
section
variable {C : Cx} {R O : List (Nat × Obj)} {Γ : Env} {o : Oper}
theorem Eff.copyS {t1 t2 e : TypeId} {x1 x2 : Operand} (ho : o.op = .call ⟨.builtin .copy,#[x1,x2],#[t1,t2]⟩) (ht : C.P.underlying t1 = some (.slice e)) (hsz : (C.P.info? e).map (·.size) = some 1)
  {b off dl c : Nat} (h1 : opd Γ [] x1 = some (.slice (some ⟨b,off,none⟩) dl c)) {s : ByteArray} (h2 : opd Γ [] x2 = some (.string s)) (i : Nat) {cs : Array Value} {te : TypeId} (hO : O[i]? = some (b,.cells cs te (0,0))) (n : Nat) (hn : n = min s.size dl) (hoff : off + n ≤ cs.size) :
  Eff C R O Γ o Unit (fun _ => .int .i64 (n : Int)) (fun _ => O.set i (b,.cells (spl cs off (bv (s.data.toList.take n)).toList) te (0,0))) (fun _ => True) := by
 refine Eff.of_run fun a w hs hp => ?_
 obtain ⟨inf,hi,hs1⟩ := Option.map_eq_some_iff.1 hsz
 have hb := hp.own _ (List.mem_of_getElem? hO)
 have hlen : (bv (s.data.toList.take n)).toList.length = n := by
  rw [Array.length_toList,bv_size,List.length_take,Array.length_toList]
  have : s.data.size = s.size := rfl
  omega
 obtain ⟨w',hr,hw,h3,h4,h5⟩ := run_storeCells (P := C.P) (off := off) (bv (s.data.toList.take n)).toList 0 cs w hb (by rw [hlen]; omega) (all_bv _)
 refine ⟨(),w',trivial,?_,hp.set i _ hO hw h3 h4 h5⟩
 have hmin : Nat.min s.size dl = n := hn.symm
 have hc : List.take n (Array.map (fun b => Value.int .u8 (b.toNat : Int)) s.data).toList = (bv (s.data.toList.take n)).toList := by
  simp [bv,List.map_take]
 simp [execOp,ho,resolve,invoke,builtin,opd_ok hs (holds_nil _) h1,opd_ok hs (holds_nil _) h2,Builtin.copy_,run_underlying' ht,run_sizeOf' hi,Builtin.lenOf,Builtin.firstCells,hmin,-Array.toList_map]
 rw [hc,hr]
 rfl
end
def wv (l : List Nat) : Array Value := (l.map fun (n : Nat) => Value.int .u32 (n : Int)).toArray
theorem wv_size (l : List Nat) : (wv l).size = l.length := by simp [wv]
theorem wv_get {l : List Nat} {n i : Nat} (hl : l.length = n) (h : i < n) : (wv l)[i]? = some (.int .u32 ((l.getD i 0 : Nat) : Int)) := by
 have h' : i < l.length := by omega
 simp [wv,List.getElem?_eq_getElem h']
theorem wv_set {l : List Nat} {i : Nat} {x : Int} (h0 : 0 ≤ x) : (wv l).setIfInBounds i (.int .u32 x) = wv (l.set i x.toNat) := by
 apply Array.ext'
 simp [wv,List.map_set]
 rw [show max x 0 = x by omega]
theorem all_wv (l : List Nat) : ∀ v ∈ (wv l).toList,one v = true := by
 intro v hv
 simp only [wv,List.mem_map] at hv
 obtain ⟨x,_,rfl⟩ := hv
 rfl
theorem load_words {P : Program} {w : World} {b off n : Nat} {ty : TypeId} {d : TypeDesc} {l : List Nat} (hu : P.underlying ty = some d) (hd : (match d with | .struct _ | .array _ _ => true | _ => false) = true) (hi : (P.info? ty).map (·.size) = some n) (hl : l.length = n)
  (h : ∀ j,j < n → w.cell? ⟨b,off + j,none⟩ = some (.int .u32 ((l.getD j 0 : Nat) : Int))) : (loadVar ty ⟨b,off,none⟩).run P w = .ok (.agg (wv l)) w := by
 obtain ⟨inf,hinf,hs⟩ := Option.map_eq_some_iff.1 hi
 have h1 := run_loadCells (P := P) (w := w) (b := b) (off := off) (n := n) (fun j => .int .u32 ((l.getD j 0 : Nat) : Int)) h
 have h2 : ((List.range n).map fun j => Value.int .u32 ((l.getD j 0 : Nat) : Int)).toArray = wv l := by
  apply Array.ext'
  simp only [wv]
  apply List.ext_getElem?
  intro i
  by_cases hi : i < n
  ·have hi' : i < l.length := by omega
   simp [hi,List.getElem?_eq_getElem hi']
  ·have hi' : l.length ≤ i := by omega
   simp [hi,List.getElem?_eq_none hi']
 rw [h2] at h1
 have h3 : (isAgg ty).run P w = .ok true w := by
  simp only [isAgg,Sem.run_bind,run_underlying' hu,Result.andThen_ok]
  cases d <;> simp_all
 have h4 : (sizeOf ty).run P w = .ok n w := by rw [run_sizeOf' hinf,hs]
 simp [loadVar,h3,h4,h1]
end K
end Go.Proofs.YtojefiolcedigaaGreatDoor
namespace Go.Proofs.YtojefiolcedigaaGreatDoor
namespace K
end K
end Go.Proofs.YtojefiolcedigaaGreatDoor
namespace Go.Proofs.YtojefiolcedigaaGreatDoor
namespace K
section
variable {w0 w w' : World} {M : List Nat} {R O : List (Nat × Obj)}
theorem HP.ofL {A : List (Nat × Obj)} (hA : Has w A) (hd : (A.map (·.1)).Nodup) (hR : Has w R) (hn : ∀ e ∈ R,e.1 ∉ A.map (·.1)) : HP w (A.map (·.1)) R A w :=
 ⟨Ext.refl _ _,hR,fun e he => ⟨lt_of_get (hR e he),hn e he⟩,hA,hd,fun e he => .inr (List.mem_map.2 ⟨e,he,rfl⟩)⟩
theorem nodup_left {A T : List (Nat × Obj)} (h : ((A ++ T).map (·.1)).Nodup) : (A.map (·.1)).Nodup := by
 rw [List.map_append] at h; exact (List.nodup_append.1 h).1
theorem HP.swap {A A' T R' : List (Nat × Obj)} (h : HP w0 M R (A ++ T) w) (h' : HP w (A.map (·.1)) R' A' w') : HP w0 M R (A' ++ T) w' := by
 have hM0 : ∀ k ∈ A.map (·.1),k < w0.heap.size → k ∈ M := by
  intro k hk hlt
  obtain ⟨e,he,rfl⟩ := List.mem_map.1 hk
  rcases h.mine e (List.mem_append_left _ he) with h1 | h1
  ·omega
  ·exact h1
 have hnd := h.dist
 rw [List.map_append] at hnd
 have hdis : ∀ e ∈ T,e.1 ∉ A.map (·.1) := fun e he hm => (List.nodup_append.1 hnd).2.2 _ hm _ (List.mem_map.2 ⟨e,he,rfl⟩) rfl
 have hT : ∀ e ∈ T,w.heap[e.1]? = some e.2 := fun e he => h.own e (List.mem_append_right A he)
 refine ⟨h.ext.trans h'.ext hM0,fun e he => ?_,h.rod,fun e he => ?_,?_,fun e he => ?_⟩
 ·have hr := h.ro e he
  rw [h'.ext.block e.1 (lt_of_get hr) (fun hm => (h.rod e he).2 (hM0 _ hm (h.rod e he).1))]; exact hr
 ·rcases List.mem_append.1 he with he | he
  ·exact h'.own e he
  ·rw [h'.ext.block e.1 (lt_of_get (hT e he)) (hdis e he)]; exact hT e he
 ·rw [List.map_append]
  refine List.nodup_append.2 ⟨h'.dist,(List.nodup_append.1 hnd).2.1,?_⟩
  intro a ha b hb hab
  subst hab
  obtain ⟨e,he,rfl⟩ := List.mem_map.1 ha
  obtain ⟨e2,he2,hx⟩ := List.mem_map.1 hb
  rcases h'.mine e he with h1 | h1
  ·have := lt_of_get (hT e2 he2)
   have hx' : e2.1 = e.1 := hx
   omega
  ·exact hdis e2 he2 ((show e2.1 = e.1 from hx) ▸ h1)
 ·rcases List.mem_append.1 he with he | he
  ·rcases h'.mine e he with h1 | h1
   ·exact .inl (Nat.le_trans h.ext.size h1)
   ·obtain ⟨e2,he2,hx⟩ := List.mem_map.1 h1
    rw [← show e2.1 = e.1 from hx]; exact h.mine e2 (List.mem_append_left _ he2)
  ·exact h.mine e (List.mem_append_right _ he)
end
section
variable {C : Cx} {R O : List (Nat × Obj)} {Γ : Env} {op : Oper}
theorem Eff.callH {f : FuncId} {fn : Func} {c : Code} {xs : List Operand} {tys : Array TypeId} {vs : List Value} {ι : Type} (V : ι → Value) (A : List (Nat × Obj)) (A' : ι → List (Nat × Obj)) (F : ι → Prop) (Fl T : List (Nat × Obj)) (hO : O = Fl ++ (A ++ T))
  (ho : op.op = .call ⟨.value (.func f),xs.toArray,tys⟩) (hf : C.P.funcs[f]? = some fn) (hnm : (fn.name == "runtime.NumGoroutine") = false) (hb : fn.body = some c) (hx : opds Γ xs = some vs)
  (h : ∀ w,HP C.w0 C.M R O w → Has w A → (A.map (·.1)).Nodup → Calls C.P f vs.toArray w fun e w' => ∃ x,F x ∧ e = .returned (V x) ∧ ∃ R1,HP w (A.map (·.1)) R1 (A' x) w') :
  Eff C R O Γ op ι V (fun x => Fl ++ (A' x ++ T)) F :=
 Eff.call ho hf hnm hb hx fun w hp => by
  have hp1 : HP C.w0 C.M R (A ++ (Fl ++ T)) w := hp.perm (by rw [hO]; exact List.perm_append_comm_assoc _ _ _)
  refine (h w hp (fun e he => hp1.own e (List.mem_append_left _ he)) (nodup_left hp1.dist)).mono ?_
  rintro e w' ⟨x,hF,he,R1,hp'⟩
  exact ⟨x,hF,he,(hp1.swap hp').perm (List.perm_append_comm_assoc _ _ _)⟩
abbrev Bd := Value × Own
def bl (T E b : Nat) (l : List UInt8) (B : Bd) : List (Nat × Obj) := (b,.cells #[B.1,.slice B.2.a l.length B.2.c] T (0,0)) :: B.2.o E (bv l).toList
theorem liesAt_off {P : Program} {e : TypeId} (hc : P.cellsOf e = 1) (count off n : Nat) (hn : off + n ≤ count) : liesAt P P.depth e count off e n = true := by
 have hd : P.depth = (2 * (P.types.size + Made.depth) + 1) + 1 := rfl
 rw [hd]
 simp only [liesAt,Bool.or_eq_true]
 left
 rw [hd]
 simp [rowAt,hc,hn,sameLayout,Nat.mod_one]
theorem run_unsafeString {P : Program} {w : World} {pt it ty e : TypeId} (hp : P.underlying pt = some (.pointer e)) (hc : P.cellsOf e = 1) {g off cells : Nat} (hsh : w.shape? g = some (e,cells)) {l : List UInt8} (h0 : l ≠ []) (hn : off + l.length ≤ cells) (h63 : l.length ≤ 9223372036854775807)
  (hcell : ∀ j x,l[j]? = some x → w.cell? ((⟨g,off,none⟩ : Addr).add j) = some (.int .u8 x.toNat)) :
  (Builtin.unsafeString_ #[pt,it] ty #[.pointer (some ⟨g,off,none⟩),.int .i64 l.length]).run P w = .ok (.string ⟨l.toArray⟩) (w.freeze ⟨g,off,none⟩ l.length) := by
 have hl : l.length ≠ 0 := by simpa using h0
 have hlb := Lib.run_loadBytes (P := P) w l ⟨g,off,none⟩ .empty hcell
 have hlies := liesAt_off (P := P) hc (cells / P.cellsOf e) off l.length (by rw [hc]; simpa using hn)
 have h63' : ¬ (9223372036854775807 : Int) < (l.length : Int) := by omega
 refine Eq.trans (b := Sem.run P (Bind.bind (asInt (.int .i64 l.length)) _) w) rfl ?_
 have hmax : IntKind.i64.max = 9223372036854775807 := rfl
 have hneg : ¬ (l.length : Int) < 0 := by omega
 simp [asInt,asIntOf,hmax,h63',hneg,hl,variablesAt,hsh,elemOf,run_underlying' hp,hlies,hlb]
theorem Eff.conv {src dst : TypeId} {x : Operand} {u : Value} (v : Value) (ho : op.op = .convert src dst x) (hx : opd Γ [] x = some u) (h : ∀ w,HP C.w0 C.M R O w → (convert src dst u).run C.P w = .ok v w) : Eff C R O Γ op Unit (fun _ => v) (fun _ => O) (fun _ => True) :=
 Eff.of_run fun a w hs hp => ⟨(),w,trivial,by simp [execOp,ho,opd_ok hs (holds_nil _) hx,h w hp],hp⟩
end
end K
end Go.Proofs.YtojefiolcedigaaGreatDoor
namespace Go.Proofs.YtojefiolcedigaaGreatDoor
namespace K
section
variable {C : Cx} {R O : List (Nat × Obj)} {Γ : Env} {op : Oper}
theorem Eff.callV {x : Operand} {f : FuncId} {fn : Func} {c : Code} {xs : List Operand} {tys : Array TypeId} (ho : op.op = .call ⟨.value x,xs.toArray,tys⟩) (hxv : opd Γ [] x = some (.func (.func f) #[] #[])) (hf : C.P.funcs[f]? = some fn) (hnm : (fn.name == "runtime.NumGoroutine") = false) (hb : fn.body = some c)
  {vs : List Value} (hx : opds Γ xs = some vs) {ι : Type} {V : ι → Value} {O' : ι → List (Nat × Obj)} {F : ι → Prop}
  (h : ∀ w,HP C.w0 C.M R O w → Calls C.P f vs.toArray w fun e w' => ∃ x,F x ∧ e = .returned (V x) ∧ HP C.w0 C.M R (O' x) w') : Eff C R O Γ op ι V O' F := by
 intro a w hs hp Kt Q hK
 have hargs := opds_ok hs hx
 have hv := opd_ok hs (holds_nil _) hxv
 have hrun : (execOp a.eval op).run C.P w = .ok (.enter f vs.toArray) w := by
  simp [execOp,ho,resolve,Deferred.ofValue,hv,invoke,hargs,run_callFunc hf hnm hb]
 unfold Oper.wp
 rw [hrun]
 refine (h w hp).mono ?_
 rintro e w' ⟨x,hx,rfl,hp'⟩
 exact hK x w' hx hp'
theorem Eff.callAV {x : Operand} {f : FuncId} {fn : Func} {c : Code} {xs : List Operand} {tys : Array TypeId} {vs : List Value} (v : Value) (ho : op.op = .call ⟨.value x,xs.toArray,tys⟩) (hxv : opd Γ [] x = some (.func (.func f) #[] #[])) (hf : C.P.funcs[f]? = some fn)
  (hnm : (fn.name == "runtime.NumGoroutine") = false) (hb : fn.body = some c) (hx : opds Γ xs = some vs)
  (h : ∀ w,HP C.w0 C.M R O w → Calls C.P f vs.toArray w fun e w' => e = .returned v ∧ Ext [] w w') : Eff C R O Γ op Unit (fun _ => v) (fun _ => O) (fun _ => True) :=
 Eff.callV ho hxv hf hnm hb hx fun w hp => (h w hp).mono fun _ _ hh => ⟨(),trivial,hh.1,hp.calm hh.2⟩
end
end K
end Go.Proofs.YtojefiolcedigaaGreatDoor
namespace Go.Proofs.YtojefiolcedigaaGreatDoor
namespace K
section
variable {C : Cx} {R O : List (Nat × Obj)} {Γ : Env} {op : Oper}
end
end K
end Go.Proofs.YtojefiolcedigaaGreatDoor
namespace Go.Proofs.YtojefiolcedigaaGreatDoor
namespace K
structure MO where
 b : Nat
 cap : Nat
 junk : List Value
 mark : Bool
def MO.fr (o : MO) : Nat × Nat := bif o.mark then (o.cap,o.cap + 1) else (0,0)
def MO.o (e : TypeId) (xs : List Value) (o : MO) : List (Nat × Obj) := [(o.b,.cells (xs ++ o.junk).toArray e o.fr)]
structure MOk (o : MO) (n : Nat) (xs : List Value) : Prop where
 len : xs.length = n
 junk : n + o.junk.length = o.cap
section
variable {C : Cx} {R O : List (Nat × Obj)} {Γ : Env} {op : Oper}
end
end K
end Go.Proofs.YtojefiolcedigaaGreatDoor
namespace Go.Proofs.YtojefiolcedigaaGreatDoor
namespace K
def InF {α : Type} (f : α → List Value) (sz : Nat) (Rl : List (Nat × Obj)) (la : Option Addr) (l : List α) : Prop := InS Rl la (l.length * sz) (fun j => (l.flatMap f).getD j undef)
theorem InF.mono {α : Type} {f : α → List Value} {sz : Nat} {Rl Rl' : List (Nat × Obj)} {la : Option Addr} {l : List α} (h : InF f sz Rl la l) (hR : ∀ e ∈ Rl,e ∈ Rl') : InF f sz Rl' la l := InS.mono h hR
theorem fl_cell {α : Type} {f : α → List Value} {sz : Nat} {l : List α} (z : α) (hsz : ∀ x ∈ l,(f x).length = sz) {cs : Array Value} {off i : Nat} (hcs : ∀ j,j < l.length * sz → cs[off + j]? = some ((l.flatMap f).getD j undef)) (hi : i < l.length) {j : Nat} {v : Value} (hv : (f (l.getD i z))[j]? = some v) : cs[off + i * sz + j]? = some v := by
 have e : l.getD i z = l[i] := by rw [List.getD_eq_getElem?_getD,List.getElem?_eq_getElem hi]; rfl
 rw [e] at hv
 have hj : j < sz := by have := (List.getElem?_eq_some_iff.1 hv).1; rw [hsz _ (List.getElem_mem hi)] at this; exact this
 have h1 := flat_get f sz hsz hi hj
 have hlt : i * sz + j < l.length * sz := by
  have : i * sz + sz ≤ l.length * sz := by rw [← Nat.succ_mul]; exact Nat.mul_le_mul_right _ hi
  omega
 rw [Nat.add_assoc,hcs _ hlt,List.getD_eq_getElem?_getD,h1,hv]; rfl
theorem fl_one {α : Type} {g : α → Value} {l : List α} (z : α) {cs : Array Value} {off i : Nat} (hcs : ∀ j,j < l.length * 1 → cs[off + j]? = some ((l.flatMap fun x => [g x]).getD j undef)) (hi : i < l.length) : cs[off + i]? = some (g (l.getD i z)) := by
 have := fl_cell (f := fun x => [g x]) z (fun x _ => rfl) hcs hi (j := 0) (v := g (l.getD i z)) rfl
 rw [Nat.mul_one,Nat.add_zero] at this; exact this
theorem flat_len {α : Type} {f : α → List Value} {sz : Nat} : ∀ {l : List α},(∀ x ∈ l,(f x).length = sz) → (l.flatMap f).length = l.length * sz
 | [],_ => by simp
 | x :: l,h => by rw [List.flatMap_cons,List.length_append,h x (List.mem_cons_self ..),flat_len (fun y hy => h y (List.mem_cons_of_mem _ hy)),List.length_cons,Nat.succ_mul,Nat.add_comm]
theorem own_inf {α : Type} {f : α → List Value} {sz : Nat} {o : Own} {e : TypeId} {l : List α} (hok : OwnOk o sz l.length (l.flatMap f)) : InF f sz (o.o e (l.flatMap f)) o.a l := by
 intro hn
 have hn1 : 0 < l.length := Nat.pos_of_ne_zero (fun h => by rw [h,Nat.zero_mul] at hn; omega)
 obtain ⟨p,rfl⟩ := own_some hok hn1
 refine ⟨p.1,0,_,e,(0,0),rfl,List.mem_cons_self ..,fun j hj => ?_⟩
 have hl := hok.len
 rw [Nat.zero_add]
 simp only [List.getElem?_toArray]
 rw [List.getElem?_append_left (by omega),List.getD_eq_getElem?_getD,List.getElem?_eq_getElem (by omega)]; rfl
theorem getD_at {α : Type} {l : List α} {i : Nat} {z : α} (h : i < l.length) : l.getD i z = l[i] := by rw [List.getD_eq_getElem?_getD,List.getElem?_eq_getElem h]; rfl
theorem getD_mem {α : Type} {l : List α} {i : Nat} {z : α} (h : i < l.length) : l.getD i z ∈ l := by rw [getD_at h]; exact List.getElem_mem h
theorem list_ne_len {α : Type} [DecidableEq α] {l m : List α} (h : l.length ≠ m.length) : decide (l = m) = false := decide_eq_false (fun e => h (by rw [e]))
theorem list_ne_at {α : Type} [DecidableEq α] {l m : List α} {i : Nat} (z : α) (h : l.getD i z ≠ m.getD i z) : decide (l = m) = false := decide_eq_false (fun e => h (by rw [e]))
theorem list_eq_at {α : Type} [DecidableEq α] {l m : List α} (z : α) (hl : l.length = m.length) (h : ∀ j,j < l.length → l.getD j z = m.getD j z) : decide (l = m) = true := by
 refine decide_eq_true (List.ext_getElem hl fun i h1 h2 => ?_)
 have := h i h1
 rw [getD_at h1,getD_at h2] at this; exact this
section
variable {C : Cx} {R O : List (Nat × Obj)} {Γ : Env} {op : Oper}
theorem Eff.appendA {t e : TypeId} {x1 x2 : Operand} (ho : op.op = .call ⟨.builtin .append,#[x1,x2],#[t,t]⟩) (sz bytes : Nat) (ht : C.P.underlying t = some (.slice e)) (hsz : (C.P.info? e).map (fun i => (i.size,i.bytes)) = some (sz,bytes))
  {z : Value} (hz0 : (C.P.info? e).bind (·.zero) = some z) (hzs : z.cells.size = sz) (own : Own) {n : Nat} {xs : List Value} (hok : OwnOk own sz n xs) (h1 : opd Γ [] x1 = some (.slice own.a n own.c))
  (a2 : Addr) {m c2 : Nat} (h2 : opd Γ [] x2 = some (.slice (some a2) m c2)) (news : List Value) (hl : news.length = m * sz) (hone : ∀ v ∈ news,one v = true)
  (hsrc : ∀ w,HP C.w0 C.M R O w → ∀ j v,news[j]? = some v → w.cell? (a2.add j) = some v) (O1 : List (Nat × Obj)) (hO : O = own.o e xs ++ O1) (hroom : (n + m) * bytes ≤ 140737488355328) (h63 : n + m ≤ 9223372036854775807) :
  Eff C R O Γ op Own (fun o => .slice o.a (n + m) o.c) (fun o => o.o e (xs ++ news) ++ O1) (fun o => OwnOk o sz (n + m) (xs ++ news)) := by
 refine Eff.of_run fun a w hs hp => ?_
 obtain ⟨inf,hi,hse⟩ := Option.map_eq_some_iff.1 hsz
 obtain ⟨inf',hi',hz⟩ := Option.bind_eq_some_iff.1 hz0
 rw [hi] at hi'
 simp only [Option.some.injEq] at hi'
 subst hi'
 simp only [Prod.mk.injEq] at hse
 obtain ⟨rfl,rfl⟩ := hse
 have hnews : ∀ j v,news[j]? = some v → w.cell? (Addr.add a2 j) = some v := fun j v hj => hsrc w hp j v hj
 have hlen : (xs ++ news).length = (n + m) * inf.size := by rw [List.length_append,hok.len,hl,Nat.add_mul]
 have hex : ∀ {v : Value} {w' : World},(Builtin.append_ #[t,t] op.type #[a.eval x1,a.eval x2]).run C.P w = .ok v w' → (execOp a.eval op).run C.P w = .ok (.value v) w' := by
  intro v w' h
  simp [execOp,ho,resolve,invoke,builtin,h]
 have e1 := opd_ok hs (holds_nil _) h1
 have e2 := opd_ok hs (holds_nil _) h2
 have fresh : ∀ (c : Nat),n + m ≤ c → HP C.w0 C.M R O1 w → HP C.w0 C.M R (Own.o e (xs ++ news) (some (w.heap.size,c,(Builtin.zeroCells z.cells (c - (n + m))).toList)) ++ O1) (w.drew.alloc (.cells (xs.toArray ++ news.toArray ++ Builtin.zeroCells z.cells (c - (n + m))) e)) ∧
   OwnOk (some (w.heap.size,c,(Builtin.zeroCells z.cells (c - (n + m))).toList)) inf.size (n + m) (xs ++ news) := by
  intro c hc hp1
  have hp2 := (hp1.calm (ext_drew w)).alloc (.cells (xs.toArray ++ news.toArray ++ Builtin.zeroCells z.cells (c - (n + m))) e (0,0))
  refine ⟨?_,hlen,fun h => (by cases h),fun p hp' => ?_⟩
  ·have e3 : (xs.toArray ++ news.toArray ++ Builtin.zeroCells z.cells (c - (n + m))) = (xs ++ news ++ (Builtin.zeroCells z.cells (c - (n + m))).toList).toArray := by
    apply Array.ext'
    simp
   rw [e3] at hp2 ⊢
   exact hp2
  ·simp only [Option.some.injEq] at hp'
   subst hp'
   refine ⟨?_,hc⟩
   simp only [Array.length_toList,zeroCells_size,hzs,hlen,← Nat.add_mul]
   congr 1
   omega
 cases own with
 | none =>
  have hn := hok.nil rfl
  subst hn
  have hx : xs = [] := List.eq_nil_of_length_eq_zero (by simpa using hok.len)
  subst hx
  simp only [Own.o,List.nil_append] at hO
  subst hO
  by_cases hm : m = 0
  ·subst hm
   have hnn : news = [] := List.eq_nil_of_length_eq_zero (by simpa using hl)
   subst hnn
   refine ⟨none,w,OwnOk.none _,hex ?_,hp⟩
   rw [e1,e2]
   simp [Builtin.append_,run_underlying' ht,run_sizeOf' hi,Builtin.lenOf,Builtin.firstCells,loadCells,loadCellsFrom,Own.a,Own.c]
  ·obtain ⟨f1,f2⟩ := fresh (grownCap w m 0 e) (by have := grownCap_ge w m 0 e; omega) hp
   refine ⟨some (w.heap.size,grownCap w m 0 e,_),_,f2,hex ?_,f1⟩
   rw [e1,e2]
   have hr := run_append_nil (P := C.P) w t op.type e inf z ht hi hz a2 m c2 news hl hnews (by omega) (by omega) (by simp only [Nat.zero_add] at hroom; omega)
   simp only [Own.a,Own.c,Nat.zero_add,Array.empty_append] at hr ⊢
   exact hr
 | some p =>
  obtain ⟨b,cap,junk⟩ := p
  obtain ⟨hj,hnc⟩ := hok.some _ rfl
  simp only at hj hnc
  have hget : O[0]? = some (b,.cells (xs ++ junk).toArray e (0,0)) := by rw [hO]; rfl
  have hb := hp.own _ (List.mem_of_getElem? hget)
  have hp1 : HP C.w0 C.M R O1 w := hp.sub (by rw [hO]; exact List.sublist_append_right _ _)
  by_cases hr : n + m ≤ cap
  ·have hfit : n * inf.size + news.length ≤ (xs ++ junk).toArray.size := by
    simp only [List.size_toArray,List.length_append,hj,hl,← Nat.add_mul]
    exact Nat.mul_le_mul_right _ hr
   have hrun := Go.run_append_room (P := C.P) w t op.type e inf ht hi b n cap (xs ++ junk).toArray hb a2 m c2 news hl hnews (fun u hu => one_cell (hone u hu)) hr hfit
   have e3 : ((xs ++ junk).toArray.toList.take (n * inf.size) ++ news ++ (xs ++ junk).toArray.toList.drop (n * inf.size + news.length)) = xs ++ news ++ junk.drop news.length := by
    rw [← hok.len]
    simp [List.drop_append,List.drop_eq_nil_of_le (show xs.length ≤ xs.length + news.length by omega)]
   rw [e3] at hrun
   refine ⟨some (b,cap,junk.drop news.length),_,⟨hlen,fun h => (by cases h),fun p hp' => ?_⟩,hex (by rw [e1,e2]; exact hrun),?_⟩
   ·simp only [Option.some.injEq] at hp'
    subst hp'
    refine ⟨?_,hr⟩
    have hle : news.length ≤ junk.length := by
     simp only [List.size_toArray,List.length_append,← hok.len] at hfit
     omega
    simp only [List.length_append,List.length_drop]
    omega
   ·have := hp.set 0 (.cells (xs ++ news ++ junk.drop news.length).toArray e (0,0)) hget (setRow_get hb) rfl rfl rfl
    rw [hO] at this
    exact this
  ·obtain ⟨f1,f2⟩ := fresh (grownCap w (n + m) cap e) (grownCap_ge w (n + m) cap e) hp1
   have holds : ∀ j v,xs[j]? = some v → w.cell? (Addr.add ⟨b,0,none⟩ j) = some v := fun j v hjv => by
    rw [add_none,Nat.zero_add,cell_cells hb]
    have hlt : j < xs.length := (List.getElem?_eq_some_iff.1 hjv).1
    simp [List.getElem?_append_left hlt,hjv]
   have hrun := Go.run_append_grow (P := C.P) w t op.type e inf z ht hi hz ⟨b,0,none⟩ n cap xs hok.len holds a2 m c2 news hl hnews (by omega) (by omega) (growslice_fits (by omega) hroom)
   exact ⟨some (w.heap.size,grownCap w (n + m) cap e,_),_,f2,hex (by rw [e1,e2]; exact hrun),f1⟩
end
end K
end Go.Proofs.YtojefiolcedigaaGreatDoor
namespace Go.Proofs.YtojefiolcedigaaGreatDoor
namespace K
set_option linter.unusedVariables false
def mkd (b : Nat) : Deferred := { target := .collected b,args := #[] }
def Q0M (P : Program) (fn : Func) (post : Ending → World → Prop) : Exit → Act → World → Prop
 | .normal,a,w | .ret,a,w => LeavesInM Fence.wide 0 P fn a.tmps (noOut post) a.defers .returning w
 | _,_,_ => False
def Cx.marks (P : Program) (fn : Func) (post : Ending → World → Prop) (w0 : World) (M : List Nat) (D : List Nat) : Cx where
 P := P
 fn := fn
 post := post
 w0 := w0
 M := M
 ro := none
 D := D.map mkd
 Q0 := Q0M P fn post
 po := fun c a w d v h => h.elim
 lo := fun ⟨a,w,h⟩ => h.elim
 rt := fun h a w v hd hr hp => by
  rw [h] at hd
  have hx : LeavesInM Fence.wide 0 P fn a.tmps (noOut post) a.defers .returning w := by
   rw [hd]
   exact ⟨v,hr,by simp,hp⟩
  exact ⟨hx,hx⟩
section
variable {C : Cx} {R O : List (Nat × Obj)} {Γ Γ' : Env} {ks ks' : List KI} {ops : Array Oper}
def rec0 (fi : FuncId) (T : Array Value) (ps : Array Tmp) (assign body : Code) (dr : Nat) (st : LoopState) (pe : Option Code) : Loop := { state := st,pending := pe,fn := fi,tmps := T,params := ps,assign := assign,body := body,defers := dr }
theorem Cfg.range {P : Program} {fn fn' : Func} {c' : Code} {post : Ending → World → Prop} {w0 : World} {M D : List Nat} {g : Operand} {ps : Array Tmp} {assign body : Code} (hk : K.nrm 99 ks = .inl (.rangeFunc g ps assign body) :: ks')
  {f : FuncId} {caps : Array Value} (hg : opd Γ [] g = some (.func (.func f) #[] caps)) (hf : P.funcs[f]? = some fn') (hnm : (fn'.name == "runtime.NumGoroutine") = false) (hb : fn'.body = some c')
  {ι : Type} (F : ι → Prop) (O' : ι → List (Nat × Obj)) (st : ι → LoopState) (pe : ι → Option Code) (hst : ∀ x,(st x == LoopState.busy) = false)
  (hcall : ∀ (fi : FuncId) (l dr : Nat) (T : Array Value) (w1 : World),St fn.ntmps [] Γ { tmps := T,defers := [] } → w0.heap.size ≤ l → w0.heap.size ≤ dr → HP w0 M R ((l,.loop (rec0 fi T ps assign body dr .ready none)) :: (dr,.deferred (some [])) :: O) w1 →
   Calls P f (#[.func (.yield l) #[] #[]] ++ caps) w1 fun e w2 => (∃ v,e = .returned v) ∧ ∃ x,F x ∧ HP w0 M R ((l,.loop (rec0 fi T ps assign body dr (st x) (pe x))) :: (dr,.deferred (some [])) :: O' x) w2)
  (next : ∀ dr x,F x → Cfg (Cx.marks P fn post w0 M (dr :: D)) R ((dr,.deferred (some [])) :: O' x) Γ (match pe x with | none => ks' | some c => .inl c :: ks')) :
  Cfg (Cx.marks P fn post w0 M D) R O Γ ks := by
 refine Cfg.nrm ?_
 rw [hk]
 intro a w hs hp
 have hgv : a.eval g = .func (.func f) #[] caps := opd_ok hs (holds_nil _) hg
 have hs' : St fn.ntmps [] Γ { tmps := a.tmps,defers := [] } := ⟨hs.size,rfl,hs.sl⟩
 refine wpIn_rangeFunc fun fi _ => ?_
 have hp1 := (hp.alloc (.deferred (some []))).alloc (.loop (rec0 fi a.tmps ps assign body w.heap.size .ready none))
 have hsz : (w.alloc (.deferred (some []))).heap.size = w.heap.size + 1 := World.size_alloc ..
 rw [hsz] at hp1
 have hw0 : w0.heap.size ≤ w.heap.size := hp.ext.size
 let W1 : World := (w.alloc (.deferred (some []))).alloc (.loop (rec0 fi a.tmps ps assign body w.heap.size .ready none))
 refine ⟨w.heap.size + 1,[mkd w.heap.size],W1,{ target := .fn (.func f) caps,args := #[.func (.yield (w.heap.size + 1)) #[] #[]] },W1,f,#[.func (.yield (w.heap.size + 1)) #[] #[]] ++ caps,W1,run_enterLoop_outer _ _ _ _ _,?_,fun _ _ => trivial,?_,fun h => (by cases h),?_⟩
 ·simp only [resolve,hgv]
  simp [go_sem]
 ·show (callFunc f (#[Value.func (.yield (w.heap.size + 1)) #[] #[]] ++ caps)).run P _ = _
  exact run_callFunc hf hnm hb
 ·refine (callsIn_fen (ro := none) (hcall fi (w.heap.size + 1) w.heap.size a.tmps _ hs' (by omega) hw0 hp1)).mono ?_
  rintro e w2 ⟨⟨v,rfl⟩,x,hx,hp2⟩
  have g1 : w2.heap[w.heap.size + 1]? = some (.loop (rec0 fi a.tmps ps assign body w.heap.size (st x) (pe x))) := hp2.own _ (List.mem_cons_self ..)
  have hgo : (getObj (w.heap.size + 1)).run P w2 = .ok (.loop (rec0 fi a.tmps ps assign body w.heap.size (st x) (pe x))) w2 := by simp [getObj,Sem.run,g1]
  have hso : ∀ o,(setObj (w.heap.size + 1) o).run P w2 = .ok () { w2 with heap := w2.heap.setIfInBounds (w.heap.size + 1) o } := fun o => by simp [setObj,Sem.run,g1]
  have hend : (Instr.endLoop (w.heap.size + 1)).run P w2 = .ok (pe x) { w2 with heap := w2.heap.setIfInBounds (w.heap.size + 1) (.loop { rec0 fi a.tmps ps assign body w.heap.size (st x) (pe x) with state := .exhausted }) } := by
   have hbz : ((rec0 fi a.tmps ps assign body w.heap.size (st x) (pe x)).state == LoopState.busy) = false := hst x
   simp only [Instr.endLoop,Instr.getLoop,Sem.run_bind,hgo,Result.andThen_ok,Sem.run_pure,hbz,Bool.false_eq_true,if_false,hso]
   rfl
  have hp3 := hp2.set 0 (.loop { rec0 fi a.tmps ps assign body w.heap.size (st x) (pe x) with state := .exhausted }) rfl (w' := { w2 with heap := w2.heap.setIfInBounds (w.heap.size + 1) (.loop { rec0 fi a.tmps ps assign body w.heap.size (st x) (pe x) with state := .exhausted }) }) rfl rfl rfl rfl
  have hp4 := hp3.sub (O' := (w.heap.size,.deferred (some [])) :: O' x) (List.sublist_cons_self ..)
  have hs4 : St fn.ntmps ((w.heap.size :: D).map mkd) Γ { a with defers := [mkd w.heap.size] ++ a.defers } := ⟨hs.size,by show [mkd w.heap.size] ++ a.defers = _; rw [hs.dfr]; rfl,hs.sl⟩
  have hn := next w.heap.size x hx _ _ hs4 hp4
  refine ⟨pe x,_,hend,?_⟩
  revert hn
  cases pe x with
  | none => exact fun hn => hn
  | some c => exact fun hn => hn
end
end K
end Go.Proofs.YtojefiolcedigaaGreatDoor
namespace Go.Proofs.YtojefiolcedigaaGreatDoor
namespace K
set_option linter.unusedVariables false
def Q0R (Z : Exit → World → Prop) : Exit → Act → World → Prop
 | .normal,_,w => Z .normal w
 | .ret,_,w => Z .ret w
 | .exit id,_,w => Z (.exit id) w
 | _,_,_ => False
def Cx.rnd (P : Program) (fn : Func) (l : Nat) (w0 : World) (M : List Nat) (Z : Exit → World → Prop) : Cx where
 P := P
 fn := fn
 post := fun _ _ => False
 w0 := w0
 M := M
 ro := some l
 D := []
 Q0 := Q0R Z
 po := fun c a w d v h => h.elim
 lo := fun ⟨a,w,h⟩ => h.elim
 rt := fun _ a w v _ _ h => h.elim
section
variable {P : Program} {fn : Func} {l : Nat} {w0 : World} {M : List Nat} {Z : Exit → World → Prop} {R O : List (Nat × Obj)} {Γ Γ' : Env} {ks ks' : List KI} {ops : Array Oper}
end
section
variable {C : Cx} {R O : List (Nat × Obj)} {Γ : Env} {ks : List KI} {ops : Array Oper}
def EffI (C : Cx) (R O : List (Nat × Obj)) (Γ : Env) (o : Oper) (ι : Type) (V : ι → Value) (O' : ι → List (Nat × Obj)) (F : ι → Prop) : Prop :=
 ∀ a w,St C.fn.ntmps C.D Γ a → HP C.w0 C.M R O w → ∀ (Kt : Act → World → Prop) (Q : Exit → Act → World → Prop),
  (∀ x w',F x → HP C.w0 C.M R (O' x) w' → Kt (a.put o.dst (V x)) w') → o.wpIn (fen C.ro) 0 C.P a w Kt Q
theorem EffI.yield {o : Oper} {g : Operand} {xs : List Operand} {tys : Array TypeId} {vs : List Value} {l : Nat} {fi : FuncId} {T : Array Value} {ps : Array Tmp} {assign body : Code} {dr : Nat} {st : LoopState} {pe : Option Code}
  {ι : Type} (V : ι → Value) (A : List (Nat × Obj)) (A' : ι → List (Nat × Obj)) (F : ι → Prop) (Fl Tl : List (Nat × Obj)) (hO : O = Fl ++ (A ++ Tl)) (ho : o.op = .call ⟨.value g,xs.toArray,tys⟩)
  (hgv : opd Γ [] g = some (.func (.yield l) #[] #[])) (hx : opds Γ xs = some vs) (hps : vs.length = ps.size) (hl : (l,Obj.loop (rec0 fi T ps assign body dr st pe)) ∈ A)
  (h : ∀ w,Has w A → (A.map (·.1)).Nodup → RoundIn Fence.wide 0 C.P l fi ((ps.zip vs.toArray).foldl (fun tmps (t,a) => tmps.setIfInBounds t a) T) assign body w fun e w' => ∃ x,F x ∧ e = .returned (V x) ∧ ∃ R1,HP w (A.map (·.1)) R1 (A' x) w') :
  EffI C R O Γ o ι V (fun x => Fl ++ (A' x ++ Tl)) F := by
 intro a w hs hp Kt Q hK
 have hp1 : HP C.w0 C.M R (A ++ (Fl ++ Tl)) w := hp.perm (by rw [hO]; exact List.perm_append_comm_assoc _ _ _)
 have hargs := opds_ok hs hx
 have hgv' : a.eval g = .func (.yield l) #[] #[] := opd_ok hs (holds_nil _) hgv
 have hlw : w.heap[l]? = some (.loop (rec0 fi T ps assign body dr st pe)) := hp1.own _ (List.mem_append_left _ hl)
 have hy := run_yield (P := C.P) (args := vs.toArray) hlw (by rw [List.size_toArray]; exact hps)
 have hrun : (execOp a.eval o).run C.P w = .ok (.round l fi ((ps.zip vs.toArray).foldl (fun tmps (t,a) => tmps.setIfInBounds t a) T) assign body) w := by
  have e : #[] ++ (xs.toArray.map a.eval) = vs.toArray := by
   rw [← hargs]; simp
  simp only [execOp,ho,resolve,hgv',Deferred.ofValue,Sem.run_bind,Sem.run_pure,Result.andThen_ok,invoke]
  rw [e]
  exact hy
 refine ⟨fun _ _ => trivial,?_⟩
 rw [semAt_run hrun (fun d hd => by cases hd),Oper.uponIn_round]
 refine ⟨fun h => (by cases h),?_⟩
 have h1 := (h w (fun e he => hp1.own e (List.mem_append_left _ he)) (nodup_left hp1.dist))
 have h2 : RoundIn (fen C.ro) 0 C.P l fi ((ps.zip vs.toArray).foldl (fun tmps (t,a) => tmps.setIfInBounds t a) T) assign body w _ := h1
 refine h2.mono ?_
 rintro e w' ⟨x,hF,rfl,R1,hp'⟩
 exact hK x _ hF ((hp1.swap hp').perm (List.perm_append_comm_assoc _ _ _))
end
end K
end Go.Proofs.YtojefiolcedigaaGreatDoor
namespace Go.Proofs.YtojefiolcedigaaGreatDoor
namespace K
set_option linter.unusedVariables false
def vis {α : Type} (p : α → Bool) : List α → List α
 | [] => []
 | x :: l => x :: (if p x then vis p l else [])
section
variable {w0 w w' : World} {M : List Nat} {R O : List (Nat × Obj)}
end
def IterSpec {α : Type} (P : Program) (f : FuncId) (caps : Array Value) (Need : List (Nat × Obj)) (items : List α) (val : α → Value) : Prop :=
 ∀ (l dr : Nat) (fi : FuncId) (T : Array Value) (ps : Array Tmp) (assign body : Code) (σ : Type) (A : σ → List (Nat × Obj)) (J : List α → σ → Prop) (s0 : σ) (p : α → Bool) (w : World),ps.size = 1 → J [] s0 → Has w (A s0) → ((A s0).map (·.1)).Nodup →
  (∀ pre x,(∀ y ∈ pre,p y = true) → J pre x → (∀ e ∈ Need,e ∈ A x) ∧ (l,Obj.loop (rec0 fi T ps assign body dr .ready none)) ∈ A x) →
  (∀ pre x a rest,(∀ y ∈ pre,p y = true) → J pre x → items = pre ++ a :: rest → ∀ w,Has w (A x) → ((A x).map (·.1)).Nodup →
   RoundIn Fence.wide 0 P l fi ((ps.zip #[val a]).foldl (fun tmps (t,a) => tmps.setIfInBounds t a) T) assign body w fun e w' => ∃ y,J (pre ++ [a]) y ∧ e = .returned (.bool (p a)) ∧ ∃ R1,HP w ((A x).map (·.1)) R1 (A y) w') →
  Calls P f (#[.func (.yield l) #[] #[]] ++ caps) w fun e w' => ∃ y,J (vis p items) y ∧ e = .returned (.tuple #[]) ∧ ∃ R1,HP w ((A s0).map (·.1)) R1 (A y) w'
theorem IterSpec.none {α : Type} {P : Program} {f : FuncId} {caps : Array Value} {Need : List (Nat × Obj)} {val : α → Value} (h : ∀ (l : Nat) (w : World),Has w Need → Calls P f (#[.func (.yield l) #[] #[]] ++ caps) w fun e w' => e = .returned (.tuple #[]) ∧ Ext [] w w') :
  IterSpec P f caps Need ([] : List α) val := by
 intro l dr fi T ps assign body σ A J s0 p w _ hJ hA hd hm _
 refine (h l w (fun e he => hA e ((hm [] s0 (fun y hy => by cases hy) hJ).1 e he))).mono ?_
 rintro e w' ⟨rfl,hx⟩
 exact ⟨s0,hJ,rfl,[],(HP.ofL hA hd (fun e he => by cases he) (fun e he => by cases he)).calm hx⟩
section
variable {P : Program} {fn : Func} {post : Ending → World → Prop} {w0 : World} {M D : List Nat} {R O : List (Nat × Obj)} {Γ : Env} {ks ks' : List KI}
end
section
variable {P : Program} {fn : Func} {post : Ending → World → Prop} {w0 : World} {M D : List Nat} {R O : List (Nat × Obj)} {Γ : Env} {ks ks' : List KI}
end
theorem Cfg.permO {C : Cx} {R O O' : List (Nat × Obj)} {Γ : Env} {ks : List KI} (h : O.Perm O') (hc : Cfg C R O' Γ ks) : Cfg C R O Γ ks := fun a w hs hp => hc a w hs (hp.perm h)
end K
end Go.Proofs.YtojefiolcedigaaGreatDoor
namespace Go.Proofs.YtojefiolcedigaaGreatDoor
namespace K
section
variable {C : Cx} {R O : List (Nat × Obj)} {Γ : Env} {op : Oper}
end
theorem load_list {P : Program} {w : World} {b off n : Nat} {ty : TypeId} {d : TypeDesc} {vs : List Value} (hu : P.underlying ty = some d) (hd : (match d with | .struct _ | .array _ _ => true | _ => false) = true) (hi : (P.info? ty).map (·.size) = some n) (hl : vs.length = n)
  (h : ∀ j v,vs[j]? = some v → w.cell? ⟨b,off + j,none⟩ = some v) : (loadVar ty ⟨b,off,none⟩).run P w = .ok (.agg vs.toArray) w := by
 obtain ⟨inf,hinf,hs⟩ := Option.map_eq_some_iff.1 hi
 have h1 := run_loadCells_list (P := P) w ⟨b,off,none⟩ vs (fun j v hj => by rw [add_none]; exact h j v hj)
 rw [hl] at h1
 have h3 : (isAgg ty).run P w = .ok true w := by
  simp only [isAgg,Sem.run_bind,run_underlying' hu,Result.andThen_ok]
  cases d <;> simp_all
 have h4 : (sizeOf ty).run P w = .ok n w := by rw [run_sizeOf' hinf,hs]
 simp [loadVar,h3,h4,h1]
end K
end Go.Proofs.YtojefiolcedigaaGreatDoor
namespace Go.Proofs.YtojefiolcedigaaGreatDoor
open K
set_option linter.unusedVariables false
abbrev Ed := Nat × Nat × Nat
structure RowU where
 a : Option Addr
 c : Nat
 xs : List Nat
def u32c (n : Nat) : List Value := [.int .u32 (n : Int)]
def edc (e : Ed) : List Value := [.int .u32 (e.1 : Int),.int .u32 (e.2.1 : Int),.int .u32 (e.2.2 : Int)]
def dgc (d : List UInt8) : List Value := (bv d).toList
def rowc (r : RowU) : List Value := [.slice r.a r.xs.length r.c]
theorem edc_len (e : Ed) : (edc e).length = 3 := rfl
theorem dgc_len {d : List UInt8} (h : d.length = 32) : (dgc d).length = 32 := by unfold dgc; rw [Array.length_toList,bv_size,h]
def D32 (l : List (List UInt8)) : Prop := ∀ d ∈ l,d.length = 32
theorem D32.at {l : List (List UInt8)} (h : D32 l) {i : Nat} (hi : i < l.length) : (l.getD i []).length = 32 := h _ (getD_mem hi)
def ez : Ed := (0,0,0)
def rwz : RowU := ⟨none,0,[]⟩
theorem ed_equal (a b : Ed) (w : World) : (Op.equal 81 (.agg (edc a).toArray) (.agg (edc b).toArray)).run Tryz.prog w = .ok (decide (a = b)) w := by
 show (Op.equalIn (9999 + 1) 81 (.agg (edc a).toArray) (.agg (edc b).toArray)).run Tryz.prog w = _
 rw [run_equalIn_struct w 9999 81 _ _ (by kernel_rfl) (by kernel_rfl)]
 rw [show (Tryz.prog.fieldsOf 81).toList = [⟨ "ID",79,0,false,"","",0⟩,⟨ "A",79,1,false,"","",4⟩,⟨ "B",79,2,false,"","",8⟩] by kernel_rfl]
 have p1 : ∀ (r : Ed),(part 79 (edc r).toArray 0).run Tryz.prog w = .ok (.int .u32 r.1) w := fun r => by
  simp only [part,isAgg,Sem.run_bind,run_underlying' Tryz.underlying79,Result.andThen_ok]; rfl
 have p2 : ∀ (r : Ed),(part 79 (edc r).toArray 1).run Tryz.prog w = .ok (.int .u32 r.2.1) w := fun r => by
  simp only [part,isAgg,Sem.run_bind,run_underlying' Tryz.underlying79,Result.andThen_ok]; rfl
 have p3 : ∀ (r : Ed),(part 79 (edc r).toArray 2).run Tryz.prog w = .ok (.int .u32 r.2.2) w := fun r => by
  simp only [part,isAgg,Sem.run_bind,run_underlying' Tryz.underlying79,Result.andThen_ok]; rfl
 have n1 : ¬ ("ID" = "_") := by decide
 have n2 : ¬ ("A" = "_") := by decide
 have n3 : ¬ ("B" = "_") := by decide
 have q : ∀ i j : Nat,(Op.equalIn 9999 79 (.int .u32 (i : Int)) (.int .u32 (j : Int))).run Tryz.prog w = .ok ((i : Int) == (j : Int)) w := fun i j => run_equalIn_int w 9998 79 .u32 .u32 i j Tryz.underlying79
 simp only [Op.eqFields,ne_eq,n1,n2,n3,not_false_eq_true,if_true,Sem.run_bind,p1,Result.andThen_ok,q]
 obtain ⟨a1,a2,a3⟩ := a
 obtain ⟨b1,b2,b3⟩ := b
 have key : ∀ x y z : Bool,Sem.run Tryz.prog (if (!x) = true then pure false else do
    let c ← part 79 (edc (a1,a2,a3)).toArray 1
    let d ← part 79 (edc (b1,b2,b3)).toArray 1
    let r ← Op.equalIn 9999 79 c d
    if (!r) = true then pure false else do
     let c ← part 79 (edc (a1,a2,a3)).toArray 2
     let d ← part 79 (edc (b1,b2,b3)).toArray 2
     let r ← Op.equalIn 9999 79 c d
     if (!r) = true then pure false else pure true) w = .ok (x && (((a2 : Int) == (b2 : Int)) && ((a3 : Int) == (b3 : Int)))) w := by
  intro x y z
  cases x with
  | false => rfl
  | true =>
   rw [if_neg (by decide),Sem.run_bind,p2,Result.andThen_ok,Sem.run_bind,p2,Result.andThen_ok,Sem.run_bind,q,Result.andThen_ok,Bool.true_and]
   simp only
   cases h2 : ((a2 : Int) == (b2 : Int)) with
   | false => rfl
   | true =>
    rw [if_neg (by decide),Sem.run_bind,p3,Result.andThen_ok,Sem.run_bind,p3,Result.andThen_ok,Sem.run_bind,q,Result.andThen_ok,Bool.true_and]
    simp only
    cases h3 : ((a3 : Int) == (b3 : Int)) <;> rfl
 have e : decide ((a1,a2,a3) = (b1,b2,b3)) = (((a1 : Int) == (b1 : Int)) && (((a2 : Int) == (b2 : Int)) && ((a3 : Int) == (b3 : Int)))) := by
  rw [Bool.eq_iff_iff]
  simp only [decide_eq_true_eq,Bool.and_eq_true,beq_iff_eq,Prod.mk.injEq]
  omega
 rw [e]
 exact key _ true true
theorem dg_byte {d : List UInt8} (h : d.length = 32) {j : Nat} (hj : j < 32) : (dgc d)[j]? = some (.int .u8 ((d.getD j 0).toNat : Int)) := by
 unfold dgc
 rw [Array.getElem?_toList]
 exact bv_get (n := 32) h hj
theorem rows_at {l : List RowU} {i : Nat} (h : i < l.length) : (l.map RowU.xs).getD i [] = (l.getD i rwz).xs := by
 rw [getD_at h,getD_at (by rw [List.length_map]; exact h),List.getElem_map]
theorem rows_ne {l m : List RowU} {i : Nat} (hi : i < l.length) (hj : i < m.length) (h : (l.getD i rwz).xs ≠ (m.getD i rwz).xs) : decide (l.map RowU.xs = m.map RowU.xs) = false :=
 list_ne_at [] (i := i) (by rw [rows_at hi,rows_at hj]; exact h)
theorem rows_eq {l m : List RowU} (hl : l.length = m.length) (h : ∀ j,j < l.length → (l.getD j rwz).xs = (m.getD j rwz).xs) : decide (l.map RowU.xs = m.map RowU.xs) = true :=
 list_eq_at [] (by rw [List.length_map,List.length_map]; exact hl) (fun j hj => by rw [List.length_map] at hj; rw [rows_at hj,rows_at (by omega)]; exact h j hj)
set_option maxRecDepth 100000 in
set_option maxHeartbeats 2000000 in
theorem eqU (la lb : Option Addr) (ca cb : Nat) (l m : List Nat) (Rl : List (Nat × Obj)) (w : World) (hI : InF u32c 1 Rl la l) (hJ : InF u32c 1 Rl lb m) (hR : Has w Rl) (hn : l.length ≤ maxLen) (hn2 : m.length ≤ maxLen) :
  Calls Tryz.prog 61 #[.slice la l.length ca,.slice lb m.length cb] w fun e w' => e = .returned (.bool (decide (l = m))) ∧ Ext [] w w' := by
 unfold maxLen at hn hn2
 refine enter (vs := [.slice la l.length ca,.slice lb m.length cb]) [] Rl [] Tryz.func61 rfl (by kernel_rfl) (HP.ofHas hR) ?_
 refine Cfg.reg rfl [0,1] [] (Γ' := [(0,[],.slice la l.length ca),(1,[],.slice lb m.length cb)]) (nd := (fun _ => [])) (fun _ => by kernel_rfl) trivial ?_
 refine Cfg.reg rfl [0,1,10] [] (Γ' := [(10,[],.bool ((l.length : Int) != (m.length : Int))),(0,[],.slice la l.length ca),(1,[],.slice lb m.length cb)]) (nd := (fun _ => [])) (fun _ => by kernel_rfl) trivial ?_
 refine Cfg.cond rfl (b := ((l.length : Int) != (m.length : Int))) (by kernel_rfl) (fun c1r => ?_) (fun c1r => ?_)
 ·have c1 : ((l.length : Int) ≠ (m.length : Int)) := (bne_iff_ne.1 c1r)
  refine Cfg.reg rfl [4] [] (Γ' := [(4,[],.bool false)]) (nd := (fun _ => [])) (fun _ => by kernel_rfl) trivial ?_
  refine Cfg.ret rfl (rs := [.tmp 4]) rfl [.bool false] ⟨by kernel_rfl,trivial⟩ (fun w1 hp => ?_)
  exact ⟨by rw [list_ne_len (by omega)]; rfl,hp.ext⟩
 ·have c1 : ((l.length : Int) = (m.length : Int)) := (bne_eq_false_iff_eq.1 c1r)
  refine Cfg.reg rfl [0,1,12,13] [] (Γ' := [(13,[],.int .i64 0),(12,[],.int .i64 (l.length : Int)),(0,[],.slice la l.length ca),(1,[],.slice lb m.length cb)]) (nd := (fun _ => [])) (fun _ => by kernel_rfl) trivial ?_
  refine Cfg.loop rfl (ι := Nat) (fun (i : Nat) => [(13,[],.int .i64 (i : Int)),(12,[],.int .i64 (l.length : Int)),(0,[],.slice la l.length ca),(1,[],.slice lb m.length cb)]) (fun (i : Nat) => []) (fun (i : Nat) => (i ≤ l.length) ∧ (∀ j,j < i → l.getD j 0 = m.getD j 0)) (fun (i : Nat) => l.length - i) 0 ?_ (Conv.mk (by kernel_rfl)) .slnil ?_
  ·exact ⟨Nat.zero_le _,fun j h => absurd h (Nat.not_lt_zero j)⟩
  ·rintro i ⟨hi,hall⟩
   refine Cfg.reg rfl [0,1,12,13,14] [] (Γ' := [(14,[],.bool (decide ((i : Int) < (l.length : Int)))),(13,[],.int .i64 (i : Int)),(12,[],.int .i64 (l.length : Int)),(0,[],.slice la l.length ca),(1,[],.slice lb m.length cb)]) (nd := (fun _ => [])) (fun _ => by kernel_rfl) trivial ?_
   refine Cfg.cond rfl (b := (decide ((i : Int) < (l.length : Int)))) (by kernel_rfl) (fun c2r => ?_) (fun c2r => ?_)
   ·have c2 : ((i : Int) < (l.length : Int)) := (of_decide_eq_true c2r)
    refine Cfg.reg rfl [0,1,5,12,13] [] (Γ' := [(5,[],.int .i64 (i : Int)),(13,[],.int .i64 (i : Int)),(12,[],.int .i64 (l.length : Int)),(0,[],.slice la l.length ca),(1,[],.slice lb m.length cb)]) (nd := (fun _ => [])) (fun _ => by kernel_rfl) trivial ?_
    obtain ⟨sa,offa,csa,tea,frea,rfl,hma,hca⟩ := hI (by omega)
    obtain ⟨sb,offb,csb,teb,freb,rfl,hmb,hcb⟩ := hJ (by omega)
    refine Conv.cfg (Γ' := [(5,[],.int .i64 (i : Int)),(13,[],.int .i64 (i : Int)),(12,[],.int .i64 (l.length : Int)),(0,[],.slice (some ⟨sa,offa,none⟩) l.length ca),(1,[],.slice (some ⟨sb,offb,none⟩) m.length cb)]) (Conv.mk (by kernel_rfl)) ?_
    refine Cfg.regD rfl (by kernel_rfl) [0,1,12,13,24] [dZ,dZ,dZ,(0,false,some (.int .u32 ((l.getD i 0) : Int))),dZ,dZ,dZ,(0,false,some (.int .u32 ((m.getD i 0) : Int)))] (Γ' := [(24,[],.bool (((l.getD i 0) : Int) != ((m.getD i 0) : Int))),(13,[],.int .i64 (i : Int)),(12,[],.int .i64 (l.length : Int)),(0,[],.slice (some ⟨sa,offa,none⟩) l.length ca),(1,[],.slice (some ⟨sb,offb,none⟩) m.length cb)]) (nd := (fun S => [(0 ≤ (i : Int) ∧ (i : Int) < (l.length : Int)),(∀ w1,S w1 → w1.cell? ⟨sa,(addO offa i),none⟩ = some (.int .u32 ((l.getD i 0) : Int))),(0 ≤ (i : Int) ∧ (i : Int) < (m.length : Int)),(∀ w1,S w1 → w1.cell? ⟨sb,(addO offb i),none⟩ = some (.int .u32 ((m.getD i 0) : Int)))])) (by kernel_rfl) (by kernel_rfl) (fun _ => by kernel_rfl) ⟨(by omega),(fun w1 h => by rw [addO_eq]; exact (cell_cells (h.ro _ hma)).trans (fl_one (g := fun n : Nat => .int .u32 (n : Int)) 0 hca (by omega))),(by omega),(fun w1 h => by rw [addO_eq]; exact (cell_cells (h.ro _ hmb)).trans (fl_one (g := fun n : Nat => .int .u32 (n : Int)) 0 hcb (by omega))),trivial⟩ ?_
    refine Cfg.cond rfl (b := (((l.getD i 0) : Int) != ((m.getD i 0) : Int))) (by kernel_rfl) (fun c3r => ?_) (fun c3r => ?_)
    ·have c3 : (((l.getD i 0) : Int) ≠ ((m.getD i 0) : Int)) := (bne_iff_ne.1 c3r)
     refine Cfg.reg rfl [4] [] (Γ' := [(4,[],.bool false)]) (nd := (fun _ => [])) (fun _ => by kernel_rfl) trivial ?_
     refine Cfg.ret rfl (rs := [.tmp 4]) rfl [.bool false] ⟨by kernel_rfl,trivial⟩ (fun w1 hp => ?_)
     exact ⟨by rw [list_ne_at 0 (i := i) (by omega)]; rfl,hp.ext⟩
    ·have c3 : (((l.getD i 0) : Int) = ((m.getD i 0) : Int)) := (bne_eq_false_iff_eq.1 c3r)
     refine Cfg.reg rfl [0,1,12,13] [] (Γ' := [(13,[],.int .i64 ((i : Int) + 1)),(12,[],.int .i64 (l.length : Int)),(0,[],.slice (some ⟨sa,offa,none⟩) l.length ca),(1,[],.slice (some ⟨sb,offb,none⟩) m.length cb)]) (nd := (fun _ => [((-9223372036854775808 : Int) ≤ ((i : Int) + 1) ∧ ((i : Int) + 1) ≤ 9223372036854775807)])) (fun _ => by kernel_rfl) ⟨(by omega),trivial⟩ ?_
     refine Cfg.again rfl (i + 1) ⟨by omega,fun j hj => by rcases Nat.lt_or_ge j i with h1 | h1; exact hall j h1; rw [show j = i by omega]; omega⟩ (by omega) (Conv.mk (by kernel_rfl)) .slnil
   ·have c2 : (¬ ((i : Int) < (l.length : Int))) := (of_decide_eq_false c2r)
    refine Cfg.reg rfl [4] [] (Γ' := [(4,[],.bool true)]) (nd := (fun _ => [])) (fun _ => by kernel_rfl) trivial ?_
    refine Cfg.ret rfl (rs := [.tmp 4]) rfl [.bool true] ⟨by kernel_rfl,trivial⟩ (fun w1 hp => ?_)
    exact ⟨by rw [list_eq_at 0 (by omega) (fun j hj => hall j (by omega))]; rfl,hp.ext⟩
set_option maxRecDepth 100000 in
set_option maxHeartbeats 2000000 in
theorem eqE (la lb : Option Addr) (ca cb : Nat) (l m : List Ed) (Rl : List (Nat × Obj)) (w : World) (hI : InF edc 3 Rl la l) (hJ : InF edc 3 Rl lb m) (hR : Has w Rl) (hn : l.length ≤ maxLen) (hn2 : m.length ≤ maxLen) :
  Calls Tryz.prog 62 #[.slice la l.length ca,.slice lb m.length cb] w fun e w' => e = .returned (.bool (decide (l = m))) ∧ Ext [] w w' := by
 unfold maxLen at hn hn2
 refine enter (vs := [.slice la l.length ca,.slice lb m.length cb]) [] Rl [] Tryz.func62 rfl (by kernel_rfl) (HP.ofHas hR) ?_
 refine Cfg.reg rfl [0,1] [] (Γ' := [(0,[],.slice la l.length ca),(1,[],.slice lb m.length cb)]) (nd := (fun _ => [])) (fun _ => by kernel_rfl) trivial ?_
 refine Cfg.reg rfl [0,1,10] [] (Γ' := [(10,[],.bool ((l.length : Int) != (m.length : Int))),(0,[],.slice la l.length ca),(1,[],.slice lb m.length cb)]) (nd := (fun _ => [])) (fun _ => by kernel_rfl) trivial ?_
 refine Cfg.cond rfl (b := ((l.length : Int) != (m.length : Int))) (by kernel_rfl) (fun c1r => ?_) (fun c1r => ?_)
 ·have c1 : ((l.length : Int) ≠ (m.length : Int)) := (bne_iff_ne.1 c1r)
  refine Cfg.reg rfl [4] [] (Γ' := [(4,[],.bool false)]) (nd := (fun _ => [])) (fun _ => by kernel_rfl) trivial ?_
  refine Cfg.ret rfl (rs := [.tmp 4]) rfl [.bool false] ⟨by kernel_rfl,trivial⟩ (fun w1 hp => ?_)
  exact ⟨by rw [list_ne_len (by omega)]; rfl,hp.ext⟩
 ·have c1 : ((l.length : Int) = (m.length : Int)) := (bne_eq_false_iff_eq.1 c1r)
  refine Cfg.reg rfl [0,1,12,13] [] (Γ' := [(13,[],.int .i64 0),(12,[],.int .i64 (l.length : Int)),(0,[],.slice la l.length ca),(1,[],.slice lb m.length cb)]) (nd := (fun _ => [])) (fun _ => by kernel_rfl) trivial ?_
  refine Cfg.loop rfl (ι := Nat) (fun (i : Nat) => [(13,[],.int .i64 (i : Int)),(12,[],.int .i64 (l.length : Int)),(0,[],.slice la l.length ca),(1,[],.slice lb m.length cb)]) (fun (i : Nat) => []) (fun (i : Nat) => (i ≤ l.length) ∧ (∀ j,j < i → l.getD j ez = m.getD j ez)) (fun (i : Nat) => l.length - i) 0 ?_ (Conv.mk (by kernel_rfl)) .slnil ?_
  ·exact ⟨Nat.zero_le _,fun j h => absurd h (Nat.not_lt_zero j)⟩
  ·rintro i ⟨hi,hall⟩
   refine Cfg.reg rfl [0,1,12,13,14] [] (Γ' := [(14,[],.bool (decide ((i : Int) < (l.length : Int)))),(13,[],.int .i64 (i : Int)),(12,[],.int .i64 (l.length : Int)),(0,[],.slice la l.length ca),(1,[],.slice lb m.length cb)]) (nd := (fun _ => [])) (fun _ => by kernel_rfl) trivial ?_
   refine Cfg.cond rfl (b := (decide ((i : Int) < (l.length : Int)))) (by kernel_rfl) (fun c2r => ?_) (fun c2r => ?_)
   ·have c2 : ((i : Int) < (l.length : Int)) := (of_decide_eq_true c2r)
    refine Cfg.reg rfl [0,1,5,12,13] [] (Γ' := [(5,[],.int .i64 (i : Int)),(13,[],.int .i64 (i : Int)),(12,[],.int .i64 (l.length : Int)),(0,[],.slice la l.length ca),(1,[],.slice lb m.length cb)]) (nd := (fun _ => [])) (fun _ => by kernel_rfl) trivial ?_
    obtain ⟨sa,offa,csa,tea,frea,rfl,hma,hca⟩ := hI (by omega)
    obtain ⟨sb,offb,csb,teb,freb,rfl,hmb,hcb⟩ := hJ (by omega)
    refine Conv.cfg (Γ' := [(5,[],.int .i64 (i : Int)),(13,[],.int .i64 (i : Int)),(12,[],.int .i64 (l.length : Int)),(0,[],.slice (some ⟨sa,offa,none⟩) l.length ca),(1,[],.slice (some ⟨sb,offb,none⟩) m.length cb)]) (Conv.mk (by kernel_rfl)) ?_
    refine Cfg.regD rfl (by kernel_rfl) [0,1,12,13,24] [dZ,dZ,dZ,(0,false,some (.agg (edc (l.getD i ez)).toArray)),dZ,dZ,dZ,(0,false,some (.agg (edc (m.getD i ez)).toArray)),(0,false,some (.bool (decide (l.getD i ez = m.getD i ez))))] (Γ' := [(24,[],.bool (!(decide (l.getD i ez = m.getD i ez)))),(13,[],.int .i64 (i : Int)),(12,[],.int .i64 (l.length : Int)),(0,[],.slice (some ⟨sa,offa,none⟩) l.length ca),(1,[],.slice (some ⟨sb,offb,none⟩) m.length cb)]) (nd := (fun S => [(0 ≤ (i : Int) ∧ (i : Int) < (l.length : Int)),(∀ w1,S w1 → (loadVar 81 ⟨sa,(addO offa (i * 3)),none⟩).run Tryz.prog w1 = .ok (.agg (edc (l.getD i ez)).toArray) w1),(0 ≤ (i : Int) ∧ (i : Int) < (m.length : Int)),(∀ w1,S w1 → (loadVar 81 ⟨sb,(addO offb (i * 3)),none⟩).run Tryz.prog w1 = .ok (.agg (edc (m.getD i ez)).toArray) w1),(∀ w1,S w1 → (Op.equal 81 (.agg (edc (l.getD i ez)).toArray) (.agg (edc (m.getD i ez)).toArray)).run Tryz.prog w1 = .ok (decide (l.getD i ez = m.getD i ez)) w1)])) (by kernel_rfl) (by kernel_rfl) (fun _ => by kernel_rfl) ⟨(by omega),(fun w1 h => load_list Tryz.underlying81 rfl (by kernel_rfl) (edc_len _) (fun j v hj => by rw [addO_eq]; exact (cell_cells (h.ro _ hma)).trans (fl_cell ez (fun x _ => edc_len x) hca (by omega) hj))),(by omega),(fun w1 h => load_list Tryz.underlying81 rfl (by kernel_rfl) (edc_len _) (fun j v hj => by rw [addO_eq]; exact (cell_cells (h.ro _ hmb)).trans (fl_cell ez (fun x _ => edc_len x) hcb (by omega) hj))),(fun w1 _ => ed_equal _ _ w1),trivial⟩ ?_
    refine Cfg.cond rfl (b := (!(decide (l.getD i ez = m.getD i ez)))) (by kernel_rfl) (fun c3r => ?_) (fun c3r => ?_)
    ·have c3 : ((decide (l.getD i ez = m.getD i ez)) = false) := (notT c3r)
     refine Cfg.reg rfl [4] [] (Γ' := [(4,[],.bool false)]) (nd := (fun _ => [])) (fun _ => by kernel_rfl) trivial ?_
     refine Cfg.ret rfl (rs := [.tmp 4]) rfl [.bool false] ⟨by kernel_rfl,trivial⟩ (fun w1 hp => ?_)
     exact ⟨by rw [list_ne_at ez (i := i) (of_decide_eq_false c3)]; rfl,hp.ext⟩
    ·have c3 : ((decide (l.getD i ez = m.getD i ez)) = true) := (notF c3r)
     refine Cfg.reg rfl [0,1,12,13] [] (Γ' := [(13,[],.int .i64 ((i : Int) + 1)),(12,[],.int .i64 (l.length : Int)),(0,[],.slice (some ⟨sa,offa,none⟩) l.length ca),(1,[],.slice (some ⟨sb,offb,none⟩) m.length cb)]) (nd := (fun _ => [((-9223372036854775808 : Int) ≤ ((i : Int) + 1) ∧ ((i : Int) + 1) ≤ 9223372036854775807)])) (fun _ => by kernel_rfl) ⟨(by omega),trivial⟩ ?_
     refine Cfg.again rfl (i + 1) ⟨by omega,fun j hj => by rcases Nat.lt_or_ge j i with h1 | h1; exact hall j h1; rw [show j = i by omega]; exact of_decide_eq_true c3⟩ (by omega) (Conv.mk (by kernel_rfl)) .slnil
   ·have c2 : (¬ ((i : Int) < (l.length : Int))) := (of_decide_eq_false c2r)
    refine Cfg.reg rfl [4] [] (Γ' := [(4,[],.bool true)]) (nd := (fun _ => [])) (fun _ => by kernel_rfl) trivial ?_
    refine Cfg.ret rfl (rs := [.tmp 4]) rfl [.bool true] ⟨by kernel_rfl,trivial⟩ (fun w1 hp => ?_)
    exact ⟨by rw [list_eq_at ez (by omega) (fun j hj => hall j (by omega))]; rfl,hp.ext⟩
set_option maxRecDepth 100000 in
set_option maxHeartbeats 2000000 in
theorem eqD (la lb : Option Addr) (ca cb : Nat) (l m : List (List UInt8)) (Rl : List (Nat × Obj)) (w : World) (hI : InF dgc 32 Rl la l) (hJ : InF dgc 32 Rl lb m) (hW : D32 l) (hV : D32 m) (hR : Has w Rl) (hn : l.length ≤ maxLen) (hn2 : m.length ≤ maxLen) :
  Calls Tryz.prog 23 #[.slice la l.length ca,.slice lb m.length cb] w fun e w' => e = .returned (.bool (decide (l = m))) ∧ Ext [] w w' := by
 unfold maxLen at hn hn2
 refine enter (vs := [.slice la l.length ca,.slice lb m.length cb]) [] Rl [] Tryz.func23 rfl (by kernel_rfl) (HP.ofHas hR) ?_
 refine Cfg.reg rfl [0,1] [] (Γ' := [(0,[],.slice la l.length ca),(1,[],.slice lb m.length cb)]) (nd := (fun _ => [])) (fun _ => by kernel_rfl) trivial ?_
 refine Cfg.reg rfl [0,1,10] [] (Γ' := [(10,[],.bool ((l.length : Int) != (m.length : Int))),(0,[],.slice la l.length ca),(1,[],.slice lb m.length cb)]) (nd := (fun _ => [])) (fun _ => by kernel_rfl) trivial ?_
 refine Cfg.cond rfl (b := ((l.length : Int) != (m.length : Int))) (by kernel_rfl) (fun c1r => ?_) (fun c1r => ?_)
 ·have c1 : ((l.length : Int) ≠ (m.length : Int)) := (bne_iff_ne.1 c1r)
  refine Cfg.reg rfl [4] [] (Γ' := [(4,[],.bool false)]) (nd := (fun _ => [])) (fun _ => by kernel_rfl) trivial ?_
  refine Cfg.ret rfl (rs := [.tmp 4]) rfl [.bool false] ⟨by kernel_rfl,trivial⟩ (fun w1 hp => ?_)
  exact ⟨by rw [list_ne_len (by omega)]; rfl,hp.ext⟩
 ·have c1 : ((l.length : Int) = (m.length : Int)) := (bne_eq_false_iff_eq.1 c1r)
  refine Cfg.reg rfl [0,1,12,13] [] (Γ' := [(13,[],.int .i64 0),(12,[],.int .i64 (l.length : Int)),(0,[],.slice la l.length ca),(1,[],.slice lb m.length cb)]) (nd := (fun _ => [])) (fun _ => by kernel_rfl) trivial ?_
  refine Cfg.loop rfl (ι := Nat) (fun (i : Nat) => [(13,[],.int .i64 (i : Int)),(12,[],.int .i64 (l.length : Int)),(0,[],.slice la l.length ca),(1,[],.slice lb m.length cb)]) (fun (i : Nat) => []) (fun (i : Nat) => (i ≤ l.length) ∧ (∀ j,j < i → l.getD j [] = m.getD j [])) (fun (i : Nat) => l.length - i) 0 ?_ (Conv.mk (by kernel_rfl)) .slnil ?_
  ·exact ⟨Nat.zero_le _,fun j h => absurd h (Nat.not_lt_zero j)⟩
  ·rintro i ⟨hi,hall⟩
   refine Cfg.reg rfl [0,1,12,13,14] [] (Γ' := [(14,[],.bool (decide ((i : Int) < (l.length : Int)))),(13,[],.int .i64 (i : Int)),(12,[],.int .i64 (l.length : Int)),(0,[],.slice la l.length ca),(1,[],.slice lb m.length cb)]) (nd := (fun _ => [])) (fun _ => by kernel_rfl) trivial ?_
   refine Cfg.cond rfl (b := (decide ((i : Int) < (l.length : Int)))) (by kernel_rfl) (fun c2r => ?_) (fun c2r => ?_)
   ·have c2 : ((i : Int) < (l.length : Int)) := (of_decide_eq_true c2r)
    refine Cfg.reg rfl [0,1,5,12,13] [] (Γ' := [(5,[],.int .i64 (i : Int)),(13,[],.int .i64 (i : Int)),(12,[],.int .i64 (l.length : Int)),(0,[],.slice la l.length ca),(1,[],.slice lb m.length cb)]) (nd := (fun _ => [])) (fun _ => by kernel_rfl) trivial ?_
    obtain ⟨sa,offa,csa,tea,frea,rfl,hma,hca⟩ := hI (by omega)
    obtain ⟨sb,offb,csb,teb,freb,rfl,hmb,hcb⟩ := hJ (by omega)
    refine Conv.cfg (Γ' := [(5,[],.int .i64 (i : Int)),(13,[],.int .i64 (i : Int)),(12,[],.int .i64 (l.length : Int)),(0,[],.slice (some ⟨sa,offa,none⟩) l.length ca),(1,[],.slice (some ⟨sb,offb,none⟩) m.length cb)]) (Conv.mk (by kernel_rfl)) ?_
    refine Cfg.regD rfl (by kernel_rfl) [0,1,12,13,24] [dZ,dZ,dZ,(0,false,some (.agg (bv (l.getD i [])))),dZ,dZ,dZ,(0,false,some (.agg (bv (m.getD i [])))),(0,false,some (.bool ((l.getD i []) == (m.getD i []))))] (Γ' := [(24,[],.bool (!((l.getD i []) == (m.getD i [])))),(13,[],.int .i64 (i : Int)),(12,[],.int .i64 (l.length : Int)),(0,[],.slice (some ⟨sa,offa,none⟩) l.length ca),(1,[],.slice (some ⟨sb,offb,none⟩) m.length cb)]) (nd := (fun S => [(0 ≤ (i : Int) ∧ (i : Int) < (l.length : Int)),(∀ w1,S w1 → (loadVar 30 ⟨sa,(addO offa (i * 32)),none⟩).run Tryz.prog w1 = .ok (.agg (bv (l.getD i []))) w1),(0 ≤ (i : Int) ∧ (i : Int) < (m.length : Int)),(∀ w1,S w1 → (loadVar 30 ⟨sb,(addO offb (i * 32)),none⟩).run Tryz.prog w1 = .ok (.agg (bv (m.getD i []))) w1),(∀ w1,S w1 → (Op.equal 30 (.agg (bv (l.getD i []))) (.agg (bv (m.getD i [])))).run Tryz.prog w1 = .ok ((l.getD i []) == (m.getD i [])) w1)])) (by kernel_rfl) (by kernel_rfl) (fun _ => by kernel_rfl) ⟨(by omega),(fun w1 h => load_bytes Tryz.underlying30 rfl (by kernel_rfl) (hW.at (by omega)) (fun j hj => by rw [addO_eq]; exact (cell_cells (h.ro _ hma)).trans (fl_cell [] (fun x hx => dgc_len (hW x hx)) hca (by omega) (dg_byte (hW.at (by omega)) hj)))),(by omega),(fun w1 h => load_bytes Tryz.underlying30 rfl (by kernel_rfl) (hV.at (by omega)) (fun j hj => by rw [addO_eq]; exact (cell_cells (h.ro _ hmb)).trans (fl_cell [] (fun x hx => dgc_len (hV x hx)) hcb (by omega) (dg_byte (hV.at (by omega)) hj)))),(fun _ _ => equal_bv Tryz.underlying30 Tryz.underlying5 (by kernel_rfl) (hW.at (by omega)) (hV.at (by omega))),trivial⟩ ?_
    refine Cfg.cond rfl (b := (!((l.getD i []) == (m.getD i [])))) (by kernel_rfl) (fun c3r => ?_) (fun c3r => ?_)
    ·have c3 : (((l.getD i []) == (m.getD i [])) = false) := (notT c3r)
     refine Cfg.reg rfl [4] [] (Γ' := [(4,[],.bool false)]) (nd := (fun _ => [])) (fun _ => by kernel_rfl) trivial ?_
     refine Cfg.ret rfl (rs := [.tmp 4]) rfl [.bool false] ⟨by kernel_rfl,trivial⟩ (fun w1 hp => ?_)
     exact ⟨by rw [list_ne_at [] (i := i) (beq_eq_false_iff_ne.1 c3)]; rfl,hp.ext⟩
    ·have c3 : (((l.getD i []) == (m.getD i [])) = true) := (notF c3r)
     refine Cfg.reg rfl [0,1,12,13] [] (Γ' := [(13,[],.int .i64 ((i : Int) + 1)),(12,[],.int .i64 (l.length : Int)),(0,[],.slice (some ⟨sa,offa,none⟩) l.length ca),(1,[],.slice (some ⟨sb,offb,none⟩) m.length cb)]) (nd := (fun _ => [((-9223372036854775808 : Int) ≤ ((i : Int) + 1) ∧ ((i : Int) + 1) ≤ 9223372036854775807)])) (fun _ => by kernel_rfl) ⟨(by omega),trivial⟩ ?_
     refine Cfg.again rfl (i + 1) ⟨by omega,fun j hj => by rcases Nat.lt_or_ge j i with h1 | h1; exact hall j h1; rw [show j = i by omega]; exact beq_iff_eq.1 c3⟩ (by omega) (Conv.mk (by kernel_rfl)) .slnil
   ·have c2 : (¬ ((i : Int) < (l.length : Int))) := (of_decide_eq_false c2r)
    refine Cfg.reg rfl [4] [] (Γ' := [(4,[],.bool true)]) (nd := (fun _ => [])) (fun _ => by kernel_rfl) trivial ?_
    refine Cfg.ret rfl (rs := [.tmp 4]) rfl [.bool true] ⟨by kernel_rfl,trivial⟩ (fun w1 hp => ?_)
    exact ⟨by rw [list_eq_at [] (by omega) (fun j hj => hall j (by omega))]; rfl,hp.ext⟩
set_option maxRecDepth 100000 in
set_option maxHeartbeats 2000000 in
theorem eqRows (la lb : Option Addr) (ca cb : Nat) (l m : List RowU) (Rl : List (Nat × Obj)) (w : World) (hI : InF rowc 1 Rl la l) (hJ : InF rowc 1 Rl lb m) (hR : Has w Rl) (hn : l.length ≤ maxLen) (hn2 : m.length ≤ maxLen) (hX : ∀ r ∈ l,InF u32c 1 Rl r.a r.xs ∧ r.xs.length ≤ maxLen) (hY : ∀ r ∈ m,InF u32c 1 Rl r.a r.xs ∧ r.xs.length ≤ maxLen) :
  Calls Tryz.prog 63 #[.slice la l.length ca,.slice lb m.length cb,.func (.func 61) #[] #[]] w fun e w' => e = .returned (.bool (decide (l.map RowU.xs = m.map RowU.xs))) ∧ Ext [] w w' := by
 unfold maxLen at hn hn2
 refine enter (vs := [.slice la l.length ca,.slice lb m.length cb,.func (.func 61) #[] #[]]) [] Rl [] Tryz.func63 rfl (by kernel_rfl) (HP.ofHas hR) ?_
 refine Cfg.reg rfl [0,1,2] [] (Γ' := [(0,[],.slice la l.length ca),(1,[],.slice lb m.length cb),(2,[],.func (.func 61) #[] #[])]) (nd := (fun _ => [])) (fun _ => by kernel_rfl) trivial ?_
 refine Cfg.reg rfl [0,1,2,14] [] (Γ' := [(14,[],.bool ((l.length : Int) != (m.length : Int))),(0,[],.slice la l.length ca),(1,[],.slice lb m.length cb),(2,[],.func (.func 61) #[] #[])]) (nd := (fun _ => [])) (fun _ => by kernel_rfl) trivial ?_
 refine Cfg.cond rfl (b := ((l.length : Int) != (m.length : Int))) (by kernel_rfl) (fun c1r => ?_) (fun c1r => ?_)
 ·have c1 : ((l.length : Int) ≠ (m.length : Int)) := (bne_iff_ne.1 c1r)
  refine Cfg.reg rfl [6] [] (Γ' := [(6,[],.bool false)]) (nd := (fun _ => [])) (fun _ => by kernel_rfl) trivial ?_
  refine Cfg.ret rfl (rs := [.tmp 6]) rfl [.bool false] ⟨by kernel_rfl,trivial⟩ (fun w1 hp => ?_)
  exact ⟨by rw [list_ne_len (by rw [List.length_map,List.length_map]; omega)]; rfl,hp.ext⟩
 ·have c1 : ((l.length : Int) = (m.length : Int)) := (bne_eq_false_iff_eq.1 c1r)
  refine Cfg.reg rfl [1,2,15,16,17] [] (Γ' := [(17,[],.int .i64 0),(16,[],.int .i64 (l.length : Int)),(15,[],.slice la l.length ca),(1,[],.slice lb m.length cb),(2,[],.func (.func 61) #[] #[])]) (nd := (fun _ => [])) (fun _ => by kernel_rfl) trivial ?_
  refine Cfg.loop rfl (ι := Nat) (fun (i : Nat) => [(17,[],.int .i64 (i : Int)),(16,[],.int .i64 (l.length : Int)),(15,[],.slice la l.length ca),(1,[],.slice lb m.length cb),(2,[],.func (.func 61) #[] #[])]) (fun (i : Nat) => []) (fun (i : Nat) => (i ≤ l.length) ∧ (∀ j,j < i → (l.getD j rwz).xs = (m.getD j rwz).xs)) (fun (i : Nat) => l.length - i) 0 ?_ (Conv.mk (by kernel_rfl)) .slnil ?_
  ·exact ⟨Nat.zero_le _,fun j h => absurd h (Nat.not_lt_zero j)⟩
  ·rintro i ⟨hi,hall⟩
   refine Cfg.reg rfl [1,2,15,16,17,18] [] (Γ' := [(18,[],.bool (decide ((i : Int) < (l.length : Int)))),(17,[],.int .i64 (i : Int)),(16,[],.int .i64 (l.length : Int)),(15,[],.slice la l.length ca),(1,[],.slice lb m.length cb),(2,[],.func (.func 61) #[] #[])]) (nd := (fun _ => [])) (fun _ => by kernel_rfl) trivial ?_
   refine Cfg.cond rfl (b := (decide ((i : Int) < (l.length : Int)))) (by kernel_rfl) (fun c2r => ?_) (fun c2r => ?_)
   ·have c2 : ((i : Int) < (l.length : Int)) := (of_decide_eq_true c2r)
    obtain ⟨sa,offa,csa,tea,frea,rfl,hma,hca⟩ := hI (by omega)
    refine Conv.cfg (Γ' := [(18,[],.bool (decide ((i : Int) < (l.length : Int)))),(17,[],.int .i64 (i : Int)),(16,[],.int .i64 (l.length : Int)),(15,[],.slice (some ⟨sa,offa,none⟩) l.length ca),(1,[],.slice lb m.length cb),(2,[],.func (.func 61) #[] #[])]) (Conv.mk (by kernel_rfl)) ?_
    refine Cfg.reg rfl [1,2,7,8,15,16,17] [dZ,dZ,(0,false,some (.slice (l.getD i rwz).a ((l.getD i rwz).xs.length) ((l.getD i rwz).c)))] (Γ' := [(8,[],.slice (l.getD i rwz).a ((l.getD i rwz).xs.length) ((l.getD i rwz).c)),(7,[],.int .i64 (i : Int)),(17,[],.int .i64 (i : Int)),(16,[],.int .i64 (l.length : Int)),(15,[],.slice (some ⟨sa,offa,none⟩) l.length ca),(1,[],.slice lb m.length cb),(2,[],.func (.func 61) #[] #[])]) (nd := (fun S => [(0 ≤ (i : Int) ∧ (i : Int) < (l.length : Int)),(∀ w1,S w1 → w1.cell? ⟨sa,(addO offa i),none⟩ = some (.slice (l.getD i rwz).a ((l.getD i rwz).xs.length) ((l.getD i rwz).c)))])) (fun _ => by kernel_rfl) ⟨(by omega),(fun w1 h => by rw [addO_eq]; exact (cell_cells (h.ro _ hma)).trans (fl_one (g := fun r : RowU => .slice r.a r.xs.length r.c) rwz hca (by omega))),trivial⟩ ?_
    obtain ⟨sb,offb,csb,teb,freb,rfl,hmb,hcb⟩ := hJ (by omega)
    refine Conv.cfg (Γ' := [(8,[],.slice (l.getD i rwz).a ((l.getD i rwz).xs.length) ((l.getD i rwz).c)),(7,[],.int .i64 (i : Int)),(17,[],.int .i64 (i : Int)),(16,[],.int .i64 (l.length : Int)),(15,[],.slice (some ⟨sa,offa,none⟩) l.length ca),(1,[],.slice (some ⟨sb,offb,none⟩) m.length cb),(2,[],.func (.func 61) #[] #[])]) (Conv.mk (by kernel_rfl)) ?_
    refine Cfg.reg rfl [1,2,8,9,15,16,17] [dZ,dZ,dZ,(0,false,some (.slice (m.getD i rwz).a ((m.getD i rwz).xs.length) ((m.getD i rwz).c)))] (Γ' := [(9,[],.slice (m.getD i rwz).a ((m.getD i rwz).xs.length) ((m.getD i rwz).c)),(8,[],.slice (l.getD i rwz).a ((l.getD i rwz).xs.length) ((l.getD i rwz).c)),(17,[],.int .i64 (i : Int)),(16,[],.int .i64 (l.length : Int)),(15,[],.slice (some ⟨sa,offa,none⟩) l.length ca),(1,[],.slice (some ⟨sb,offb,none⟩) m.length cb),(2,[],.func (.func 61) #[] #[])]) (nd := (fun S => [(0 ≤ (i : Int) ∧ (i : Int) < (m.length : Int)),(∀ w1,S w1 → w1.cell? ⟨sb,(addO offb i),none⟩ = some (.slice (m.getD i rwz).a ((m.getD i rwz).xs.length) ((m.getD i rwz).c)))])) (fun _ => by kernel_rfl) ⟨(by omega),(fun w1 h => by rw [addO_eq]; exact (cell_cells (h.ro _ hmb)).trans (fl_one (g := fun r : RowU => .slice r.a r.xs.length r.c) rwz hcb (by omega))),trivial⟩ ?_
    refine Cfg.begL rfl ?_
    refine CfgL.pure 3 [] (some [1,2,15,16,17,26,27,28]) (Γ' := [(28,[],.slice (m.getD i rwz).a ((m.getD i rwz).xs.length) ((m.getD i rwz).c)),(27,[],.slice (l.getD i rwz).a ((l.getD i rwz).xs.length) ((l.getD i rwz).c)),(26,[],.func (.func 61) #[] #[]),(17,[],.int .i64 (i : Int)),(16,[],.int .i64 (l.length : Int)),(15,[],.slice (some ⟨sa,offa,none⟩) l.length ca),(1,[],.slice (some ⟨sb,offb,none⟩) m.length cb),(2,[],.func (.func 61) #[] #[])]) (nd := (fun _ => [])) (by kernel_rfl) (fun _ => by kernel_rfl) trivial ?_
    refine CfgL.eff (o := _) rfl (by kernel_rfl) (by kernel_rfl) (Eff.callAV (vs := [.slice (l.getD i rwz).a (l.getD i rwz).xs.length (l.getD i rwz).c,.slice (m.getD i rwz).a (m.getD i rwz).xs.length (m.getD i rwz).c]) (.bool (decide ((l.getD i rwz).xs = (m.getD i rwz).xs))) rfl (by kernel_rfl) Tryz.func61 rfl rfl (by kernel_rfl) (fun w1 h => eqU (l.getD i rwz).a (m.getD i rwz).a (l.getD i rwz).c (m.getD i rwz).c (l.getD i rwz).xs (m.getD i rwz).xs Rl w1 (hX _ (getD_mem (by omega))).1 (hY _ (getD_mem (by omega))).1 (h.hasR (fun e he => he)) (hX _ (getD_mem (by omega))).2 (hY _ (getD_mem (by omega))).2)) ?_
    rintro ⟨⟩ -
    refine CfgL.pure 1 [] (some [1,2,15,16,17,30]) (Γ' := [(30,[],.bool (!(decide ((l.getD i rwz).xs = (m.getD i rwz).xs)))),(17,[],.int .i64 (i : Int)),(16,[],.int .i64 (l.length : Int)),(15,[],.slice (some ⟨sa,offa,none⟩) l.length ca),(1,[],.slice (some ⟨sb,offb,none⟩) m.length cb),(2,[],.func (.func 61) #[] #[])]) (nd := (fun _ => [])) (by kernel_rfl) (fun _ => by kernel_rfl) trivial ?_
    refine CfgL.done rfl ?_
    refine Cfg.cond rfl (b := (!(decide ((l.getD i rwz).xs = (m.getD i rwz).xs)))) (by kernel_rfl) (fun c3r => ?_) (fun c3r => ?_)
    ·have c3 : ((decide ((l.getD i rwz).xs = (m.getD i rwz).xs)) = false) := (notT c3r)
     refine Cfg.reg rfl [6] [] (Γ' := [(6,[],.bool false)]) (nd := (fun _ => [])) (fun _ => by kernel_rfl) trivial ?_
     refine Cfg.ret rfl (rs := [.tmp 6]) rfl [.bool false] ⟨by kernel_rfl,trivial⟩ (fun w1 hp => ?_)
     exact ⟨by rw [rows_ne (i := i) (by omega) (by omega) (of_decide_eq_false c3)]; rfl,hp.ext⟩
    ·have c3 : ((decide ((l.getD i rwz).xs = (m.getD i rwz).xs)) = true) := (notF c3r)
     refine Cfg.reg rfl [1,2,15,16,17] [] (Γ' := [(17,[],.int .i64 ((i : Int) + 1)),(16,[],.int .i64 (l.length : Int)),(15,[],.slice (some ⟨sa,offa,none⟩) l.length ca),(1,[],.slice (some ⟨sb,offb,none⟩) m.length cb),(2,[],.func (.func 61) #[] #[])]) (nd := (fun _ => [((-9223372036854775808 : Int) ≤ ((i : Int) + 1) ∧ ((i : Int) + 1) ≤ 9223372036854775807)])) (fun _ => by kernel_rfl) ⟨(by omega),trivial⟩ ?_
     refine Cfg.again rfl (i + 1) ⟨by omega,fun j hj => by rcases Nat.lt_or_ge j i with h1 | h1; exact hall j h1; rw [show j = i by omega]; exact of_decide_eq_true c3⟩ (by omega) (Conv.mk (by kernel_rfl)) .slnil
   ·have c2 : (¬ ((i : Int) < (l.length : Int))) := (of_decide_eq_false c2r)
    refine Cfg.reg rfl [6] [] (Γ' := [(6,[],.bool true)]) (nd := (fun _ => [])) (fun _ => by kernel_rfl) trivial ?_
    refine Cfg.ret rfl (rs := [.tmp 6]) rfl [.bool true] ⟨by kernel_rfl,trivial⟩ (fun w1 hp => ?_)
    exact ⟨by rw [rows_eq (by omega) (fun j hj => hall j (by omega))]; rfl,hp.ext⟩
end Go.Proofs.YtojefiolcedigaaGreatDoor
namespace Go.Proofs.YtojefiolcedigaaGreatDoor
open K
set_option linter.unusedVariables false
structure MM where
 va : Option Addr
 vc : Nat
 vs : List Nat
 ea : Option Addr
 ec : Nat
 es : List Ed
 ra : Option Addr
 rc : Nat
 rs : List RowU
structure CM where
 d : List UInt8
 pa : Option Addr
 pc : Nat
 ps : List (List UInt8)
 n : Nat
 t : ByteArray
structure TM where
 d : List UInt8
 t : ByteArray
structure OM where
 k : Nat
 m : MM
 c : CM
 t : TM
def d0 : List UInt8 := List.replicate 32 0
def m0 : MM := ⟨none,0,[],none,0,[],none,0,[]⟩
def c0 : CM := ⟨d0,none,0,[],0,ByteArray.empty⟩
def t0 : TM := ⟨d0,ByteArray.empty⟩
def gc (m : MM) : List Value := [.slice m.va m.vs.length m.vc,.slice m.ea m.es.length m.ec]
def mc (m : MM) : List Value := [.slice m.va m.vs.length m.vc,.slice m.ea m.es.length m.ec,.slice m.ra m.rs.length m.rc]
def cc (c : CM) : List Value := dgc c.d ++ [.slice c.pa c.ps.length c.pc,.int .u64 (c.n : Int),.string c.t]
def tc (t : TM) : List Value := dgc t.d ++ [.string t.t]
def oc (o : OM) : List Value := .int .u8 (o.k : Int) :: .slice o.m.va o.m.vs.length o.m.vc :: .slice o.m.ea o.m.es.length o.m.ec :: .slice o.m.ra o.m.rs.length o.m.rc :: (cc o.c ++ tc o.t)
theorem app_l {a b : List Value} {j : Nat} {v : Value} (h : a[j]? = some v) : (a ++ b)[j]? = some v := by
 rw [List.getElem?_append_left (List.getElem?_eq_some_iff.1 h).1,h]
theorem app_r {a b : List Value} {n j : Nat} {v : Value} (hn : a.length = n) (h : b[j]? = some v) : (a ++ b)[n + j]? = some v := by
 rw [List.getElem?_append_right (by omega),hn,Nat.add_sub_cancel_left,h]
theorem cc_len {c : CM} (h : c.d.length = 32) : (cc c).length = 35 := by unfold cc; rw [List.length_append,dgc_len h]; rfl
theorem tc_len {t : TM} (h : t.d.length = 32) : (tc t).length = 33 := by unfold tc; rw [List.length_append,dgc_len h]; rfl
theorem gc_mc {m : MM} {j : Nat} {v : Value} (h : (gc m)[j]? = some v) : (mc m)[0 + j]? = some v := by
 have hj : j < 2 := (List.getElem?_eq_some_iff.1 h).1
 rcases j with _ | _ | j
 ·exact h
 ·exact h
 ·omega
theorem oc_com {o : OM} {j : Nat} {v : Value} (h : (cc o.c)[j]? = some v) : (oc o)[4 + j]? = some v := by rw [Nat.add_comm]; exact app_l h
theorem oc_tag {o : OM} (hd : o.c.d.length = 32) {j : Nat} {v : Value} (h : (tc o.t)[j]? = some v) : (oc o)[39 + j]? = some v := by rw [show 39 + j = (35 + j) + 4 by omega]; exact app_r (cc_len hd) h
theorem cc_d {c : CM} {j : Nat} {v : Value} (h : (dgc c.d)[j]? = some v) : (cc c)[j]? = some v := app_l h
theorem cc_p {c : CM} (hd : c.d.length = 32) : (cc c)[32]? = some (.slice c.pa c.ps.length c.pc) := app_r (j := 0) (dgc_len hd) rfl
theorem cc_n {c : CM} (hd : c.d.length = 32) : (cc c)[33]? = some (.int .u64 (c.n : Int)) := app_r (j := 1) (dgc_len hd) rfl
theorem cc_t {c : CM} (hd : c.d.length = 32) : (cc c)[34]? = some (.string c.t) := app_r (j := 2) (dgc_len hd) rfl
theorem tc_t {t : TM} (hd : t.d.length = 32) : (tc t)[32]? = some (.string t.t) := app_r (j := 0) (dgc_len hd) rfl
theorem all_dgc (d : List UInt8) : ∀ v ∈ dgc d,K.one v = true := fun v hv => all_bv d v hv
theorem all_cc (c : CM) : ∀ v ∈ cc c,K.one v = true := by
 intro v hv
 rcases List.mem_append.1 hv with h | h
 ·exact all_dgc _ v h
 ·simp only [List.mem_cons,List.not_mem_nil,or_false] at h
  rcases h with rfl | rfl | rfl <;> rfl
theorem all_tc (t : TM) : ∀ v ∈ tc t,K.one v = true := by
 intro v hv
 rcases List.mem_append.1 hv with h | h
 ·exact all_dgc _ v h
 ·simp only [List.mem_cons,List.not_mem_nil,or_false] at h
  rcases h with rfl; rfl
theorem all_mc (m : MM) : ∀ v ∈ mc m,K.one v = true := by
 intro v h
 simp only [mc,List.mem_cons,List.not_mem_nil,or_false] at h
 rcases h with rfl | rfl | rfl <;> rfl
theorem oc_split (o : OM) : oc o = (.int .u8 (o.k : Int) :: mc o.m) ++ (cc o.c ++ tc o.t) := rfl
theorem all_oc (o : OM) : ∀ v ∈ oc o,K.one v = true := by
 intro v h
 rw [oc_split] at h
 rcases List.mem_append.1 h with h | h
 ·rcases List.mem_cons.1 h with rfl | h
  ·rfl
  ·exact all_mc _ v h
 ·rcases List.mem_append.1 h with h | h
  ·exact all_cc _ v h
  ·exact all_tc _ v h
theorem oc_len {o : OM} (hc : o.c.d.length = 32) (ht : o.t.d.length = 32) : (oc o).length = 72 := by rw [oc_split,List.length_append,List.length_append,cc_len hc,tc_len ht]; rfl
def fewF (m : MM) : Bool := (decide ((m.vs.length : Int) ≤ 70) && decide ((m.es.length : Int) ≤ 60)) && decide ((m.rs.length : Int) ≤ 80)
structure InM (Rl : List (Nat × Obj)) (m : MM) : Prop where
 v : InF u32c 1 Rl m.va m.vs
 e : InF edc 3 Rl m.ea m.es
 r : InF rowc 1 Rl m.ra m.rs
 i : ∀ x ∈ m.rs,InF u32c 1 Rl x.a x.xs ∧ x.xs.length ≤ 140737488355328 / 4
 n : m.vs.length ≤ 140737488355328 / 4 ∧ m.es.length ≤ 140737488355328 / 12 ∧ m.rs.length ≤ 140737488355328 / 24
theorem InM.mono {Rl Rl' : List (Nat × Obj)} {m : MM} (h : InM Rl m) (hR : ∀ e ∈ Rl,e ∈ Rl') : InM Rl' m :=
 ⟨h.v.mono hR,h.e.mono hR,h.r.mono hR,fun x hx => ⟨(h.i x hx).1.mono hR,(h.i x hx).2⟩,h.n⟩
theorem InM.zero (Rl : List (Nat × Obj)) : InM Rl m0 := ⟨fun h => absurd h (Nat.lt_irrefl 0),fun h => absurd h (Nat.lt_irrefl 0),fun h => absurd h (Nat.lt_irrefl 0),(fun x hx => by cases hx),by decide⟩
structure InC (Rl : List (Nat × Obj)) (c : CM) : Prop where
 d : c.d.length = 32
 p : InF dgc 32 Rl c.pa c.ps
 w : D32 c.ps
 n : c.ps.length ≤ 140737488355328 / 32
theorem InC.mono {Rl Rl' : List (Nat × Obj)} {c : CM} (h : InC Rl c) (hR : ∀ e ∈ Rl,e ∈ Rl') : InC Rl' c := ⟨h.d,h.p.mono hR,h.w,h.n⟩
theorem d0_len : d0.length = 32 := List.length_replicate
theorem InC.zero (Rl : List (Nat × Obj)) : InC Rl c0 := ⟨d0_len,fun h => absurd h (Nat.lt_irrefl 0),(fun x hx => by cases hx),by decide⟩
structure InO (Rl : List (Nat × Obj)) (o : OM) : Prop where
 m : InM Rl o.m
 c : InC Rl o.c
 t : o.t.d.length = 32
theorem InO.mono {Rl Rl' : List (Nat × Obj)} {o : OM} (h : InO Rl o) (hR : ∀ e ∈ Rl,e ∈ Rl') : InO Rl' o := ⟨h.m.mono hR,h.c.mono hR,h.t⟩
theorem clo_src {α : Type} {f : α → List Value} {sz : Nat} {Rl : List (Nat × Obj)} {a2 : Addr} {l : List α} (hI : InF f sz Rl (some a2) l) (hsz : ∀ x ∈ l,(f x).length = sz) {w : World} (hR : Has w Rl) {j : Nat} {v : Value} (hv : (l.flatMap f)[j]? = some v) : w.cell? (a2.add j) = some v := by
 have hj := (List.getElem?_eq_some_iff.1 hv).1
 rw [flat_len hsz] at hj
 obtain ⟨b,off,cs,t,fr,h1,hmem,hcs⟩ := hI (by omega)
 simp only [Option.some.injEq] at h1
 subst h1
 rw [add_none,cell_cells (hR _ hmem),hcs j hj]
 show some ((l.flatMap f).getD j undef) = some v
 rw [List.getD_eq_getElem?_getD,hv]; rfl
theorem clo_nil {α : Type} {f : α → List Value} {sz : Nat} (hz : 0 < sz) {Rl : List (Nat × Obj)} {la : Option Addr} {l : List α} (hI : InF f sz Rl la l) (h0 : la = none) : l = [] := by
 rcases Nat.eq_zero_or_pos l.length with h | h
 ·exact List.eq_nil_of_length_eq_zero h
 ·obtain ⟨b,off,cs,t,fr,h1,_⟩ := hI (Nat.mul_pos h hz)
  rw [h0] at h1; cases h1
theorem one_flat {α : Type} {f : α → List Value} {l : List α} (h : ∀ x,∀ v ∈ f x,K.one v = true) : ∀ v ∈ l.flatMap f,K.one v = true := fun v hv => by
 obtain ⟨x,_,hx⟩ := List.mem_flatMap.1 hv
 exact h x v hx
theorem one_u32 (n : Nat) : ∀ v ∈ u32c n,K.one v = true := fun v hv => by rw [List.mem_singleton.1 hv]; rfl
theorem one_edc (e : Ed) : ∀ v ∈ edc e,K.one v = true := fun v h => by
 simp only [edc,List.mem_cons,List.not_mem_nil,or_false] at h
 rcases h with rfl | rfl | rfl <;> rfl
theorem own_zero' (z : Nat) (sz : Nat) : OwnOk (some (z,0,[])) sz 0 [] := ⟨by simp,fun h => (by cases h),fun p hp => by simp only [Option.some.injEq] at hp; subst hp; simp⟩
set_option maxRecDepth 100000 in
set_option maxHeartbeats 2000000 in
theorem cloU (la : Option Addr) (cap : Nat) (l : List Nat) (Rl : List (Nat × Obj)) (w : World) (hI : InF u32c 1 Rl la l) (hR : Has w Rl) (hn : l.length ≤ 140737488355328 / 4) :
  Calls Tryz.prog 58 #[.slice la l.length cap] w fun e w' => ∃ o : K.Own,OwnOk o 1 l.length (l.flatMap u32c) ∧ e = .returned (.slice o.a l.length o.c) ∧ Has w' (o.o 79 (l.flatMap u32c)) ∧ (∀ x ∈ o.o 79 (l.flatMap u32c),w.heap.size ≤ x.1) ∧ Ext [] w w' := by
 refine enter (vs := [.slice la l.length cap]) [] Rl [] Tryz.func58 rfl (by kernel_rfl) (HP.ofHas hR) ?_
 refine Cfg.reg rfl [0] [] (Γ' := [(0,[],.slice la l.length cap)]) (nd := (fun _ => [])) (fun _ => by kernel_rfl) trivial ?_
 refine Cfg.reg rfl [0,4] [] (Γ' := [(4,[],.bool (la).isNone),(0,[],.slice la l.length cap)]) (nd := (fun _ => [])) (fun _ => by kernel_rfl) trivial ?_
 refine Cfg.cond rfl (b := (la).isNone) (by kernel_rfl) (fun c1r => ?_) (fun c1r => ?_)
 ·have c1 : ((la).isNone = true) := c1r
  refine Cfg.reg rfl [2] [] (Γ' := [(2,[],.slice none 0 0)]) (nd := (fun _ => [])) (fun _ => by kernel_rfl) trivial ?_
  refine Cfg.ret rfl (rs := [.tmp 2]) rfl [.slice none 0 0] ⟨by kernel_rfl,trivial⟩ (fun w1 hp => ?_)
  have hl := clo_nil (by decide) hI (Option.isNone_iff_eq_none.1 (by simpa using c1))
  subst hl
  exact ⟨none,OwnOk.none 1,rfl,(fun e he => by cases he),(fun e he => by cases he),hp.ext⟩
 ·have c1 : ((la).isNone = false) := c1r
  obtain ⟨a2,rfl⟩ : ∃ a,la = some a := Option.isSome_iff_exists.1 (by simpa [Option.isNone_iff_eq_none,Option.isSome_iff_ne_none] using c1)
  refine Cfg.begL rfl ?_
  refine CfgL.eff (o := _) rfl (by kernel_rfl) (by kernel_rfl) (Eff.buildSlice (e := 79) (cells := #[]) (parts := #[]) rfl (by kernel_rfl) (fun _ => by kernel_rfl)) ?_
  rintro z ⟨hz,nz⟩
  refine CfgL.pure 1 [] (some [5,6]) (Γ' := [(6,[],.slice (some a2) l.length cap),(5,[],.slice (some ⟨z,0,none⟩) 0 0)]) (nd := (fun _ => [])) (by kernel_rfl) (fun _ => by kernel_rfl) trivial ?_
  refine CfgL.eff (o := _) rfl (by kernel_rfl) (by kernel_rfl) (Eff.appendA rfl 1 4 Tryz.underlying22 (by kernel_rfl) (z := (.int .u32 0)) (by kernel_rfl) rfl (some (z,0,[])) (n := 0) (xs := []) (own_zero' z 1) (by kernel_rfl) a2 (m := l.length) (c2 := cap) (by kernel_rfl) (l.flatMap u32c) (flat_len (fun x _ => rfl)) (one_flat one_u32) (fun w1 h j v hj => clo_src hI (fun x _ => rfl) (h.hasR (fun e he => he)) hj) [] rfl (by omega) (by omega)) ?_
  rintro o ko
  refine CfgL.pure 1 [] (some [2]) (Γ' := [(2,[],.slice (Own.a o) ((0 + l.length)) (Own.c o))]) (nd := (fun _ => [])) (by kernel_rfl) (fun _ => by kernel_rfl) trivial ?_
  refine CfgL.done rfl ?_
  refine Cfg.ret rfl (rs := [.tmp 2]) rfl [.slice (Own.a o) ((0 + l.length)) (Own.c o)] ⟨by kernel_rfl,trivial⟩ (fun w1 hp => ?_)
  have ko2 := ko
  rw [Nat.zero_add] at ko2
  exact ⟨o,ko2,by rw [Nat.zero_add]; rfl,fun x hx => hp.own x (by simpa using hx),fun x hx => (hp.mine x (by simpa using hx)).resolve_right (fun h => by cases h),hp.ext⟩
set_option maxRecDepth 100000 in
set_option maxHeartbeats 2000000 in
theorem cloE (la : Option Addr) (cap : Nat) (l : List Ed) (Rl : List (Nat × Obj)) (w : World) (hI : InF edc 3 Rl la l) (hR : Has w Rl) (hn : l.length ≤ 140737488355328 / 12) :
  Calls Tryz.prog 59 #[.slice la l.length cap] w fun e w' => ∃ o : K.Own,OwnOk o 3 l.length (l.flatMap edc) ∧ e = .returned (.slice o.a l.length o.c) ∧ Has w' (o.o 81 (l.flatMap edc)) ∧ (∀ x ∈ o.o 81 (l.flatMap edc),w.heap.size ≤ x.1) ∧ Ext [] w w' := by
 refine enter (vs := [.slice la l.length cap]) [] Rl [] Tryz.func59 rfl (by kernel_rfl) (HP.ofHas hR) ?_
 refine Cfg.reg rfl [0] [] (Γ' := [(0,[],.slice la l.length cap)]) (nd := (fun _ => [])) (fun _ => by kernel_rfl) trivial ?_
 refine Cfg.reg rfl [0,4] [] (Γ' := [(4,[],.bool (la).isNone),(0,[],.slice la l.length cap)]) (nd := (fun _ => [])) (fun _ => by kernel_rfl) trivial ?_
 refine Cfg.cond rfl (b := (la).isNone) (by kernel_rfl) (fun c1r => ?_) (fun c1r => ?_)
 ·have c1 : ((la).isNone = true) := c1r
  refine Cfg.reg rfl [2] [] (Γ' := [(2,[],.slice none 0 0)]) (nd := (fun _ => [])) (fun _ => by kernel_rfl) trivial ?_
  refine Cfg.ret rfl (rs := [.tmp 2]) rfl [.slice none 0 0] ⟨by kernel_rfl,trivial⟩ (fun w1 hp => ?_)
  have hl := clo_nil (by decide) hI (Option.isNone_iff_eq_none.1 (by simpa using c1))
  subst hl
  exact ⟨none,OwnOk.none 3,rfl,(fun e he => by cases he),(fun e he => by cases he),hp.ext⟩
 ·have c1 : ((la).isNone = false) := c1r
  obtain ⟨a2,rfl⟩ : ∃ a,la = some a := Option.isSome_iff_exists.1 (by simpa [Option.isNone_iff_eq_none,Option.isSome_iff_ne_none] using c1)
  refine Cfg.begL rfl ?_
  refine CfgL.eff (o := _) rfl (by kernel_rfl) (by kernel_rfl) (Eff.buildSlice (e := 81) (cells := #[]) (parts := #[]) rfl (by kernel_rfl) (fun _ => by kernel_rfl)) ?_
  rintro z ⟨hz,nz⟩
  refine CfgL.pure 1 [] (some [5,6]) (Γ' := [(6,[],.slice (some a2) l.length cap),(5,[],.slice (some ⟨z,0,none⟩) 0 0)]) (nd := (fun _ => [])) (by kernel_rfl) (fun _ => by kernel_rfl) trivial ?_
  refine CfgL.eff (o := _) rfl (by kernel_rfl) (by kernel_rfl) (Eff.appendA rfl 3 12 Tryz.underlying23 (by kernel_rfl) (z := (.agg #[.int .u32 0,.int .u32 0,.int .u32 0])) (by kernel_rfl) rfl (some (z,0,[])) (n := 0) (xs := []) (own_zero' z 3) (by kernel_rfl) a2 (m := l.length) (c2 := cap) (by kernel_rfl) (l.flatMap edc) (flat_len (fun x _ => edc_len x)) (one_flat one_edc) (fun w1 h j v hj => clo_src hI (fun x _ => edc_len x) (h.hasR (fun e he => he)) hj) [] rfl (by omega) (by omega)) ?_
  rintro o ko
  refine CfgL.pure 1 [] (some [2]) (Γ' := [(2,[],.slice (Own.a o) ((0 + l.length)) (Own.c o))]) (nd := (fun _ => [])) (by kernel_rfl) (fun _ => by kernel_rfl) trivial ?_
  refine CfgL.done rfl ?_
  refine Cfg.ret rfl (rs := [.tmp 2]) rfl [.slice (Own.a o) ((0 + l.length)) (Own.c o)] ⟨by kernel_rfl,trivial⟩ (fun w1 hp => ?_)
  have ko2 := ko
  rw [Nat.zero_add] at ko2
  exact ⟨o,ko2,by rw [Nat.zero_add]; rfl,fun x hx => hp.own x (by simpa using hx),fun x hx => (hp.mine x (by simpa using hx)).resolve_right (fun h => by cases h),hp.ext⟩
set_option maxRecDepth 100000 in
set_option maxHeartbeats 2000000 in
theorem cloD (la : Option Addr) (cap : Nat) (l : List (List UInt8)) (Rl : List (Nat × Obj)) (w : World) (hI : InF dgc 32 Rl la l) (hW : D32 l) (hR : Has w Rl) (hn : l.length ≤ 140737488355328 / 32) :
  Calls Tryz.prog 60 #[.slice la l.length cap] w fun e w' => ∃ o : K.Own,OwnOk o 32 l.length (l.flatMap dgc) ∧ e = .returned (.slice o.a l.length o.c) ∧ Has w' (o.o 30 (l.flatMap dgc)) ∧ (∀ x ∈ o.o 30 (l.flatMap dgc),w.heap.size ≤ x.1) ∧ Ext [] w w' := by
 refine enter (vs := [.slice la l.length cap]) [] Rl [] Tryz.func60 rfl (by kernel_rfl) (HP.ofHas hR) ?_
 refine Cfg.reg rfl [0] [] (Γ' := [(0,[],.slice la l.length cap)]) (nd := (fun _ => [])) (fun _ => by kernel_rfl) trivial ?_
 refine Cfg.reg rfl [0,4] [] (Γ' := [(4,[],.bool (la).isNone),(0,[],.slice la l.length cap)]) (nd := (fun _ => [])) (fun _ => by kernel_rfl) trivial ?_
 refine Cfg.cond rfl (b := (la).isNone) (by kernel_rfl) (fun c1r => ?_) (fun c1r => ?_)
 ·have c1 : ((la).isNone = true) := c1r
  refine Cfg.reg rfl [2] [] (Γ' := [(2,[],.slice none 0 0)]) (nd := (fun _ => [])) (fun _ => by kernel_rfl) trivial ?_
  refine Cfg.ret rfl (rs := [.tmp 2]) rfl [.slice none 0 0] ⟨by kernel_rfl,trivial⟩ (fun w1 hp => ?_)
  have hl := clo_nil (by decide) hI (Option.isNone_iff_eq_none.1 (by simpa using c1))
  subst hl
  exact ⟨none,OwnOk.none 32,rfl,(fun e he => by cases he),(fun e he => by cases he),hp.ext⟩
 ·have c1 : ((la).isNone = false) := c1r
  obtain ⟨a2,rfl⟩ : ∃ a,la = some a := Option.isSome_iff_exists.1 (by simpa [Option.isNone_iff_eq_none,Option.isSome_iff_ne_none] using c1)
  refine Cfg.begL rfl ?_
  refine CfgL.eff (o := _) rfl (by kernel_rfl) (by kernel_rfl) (Eff.buildSlice (e := 30) (cells := #[]) (parts := #[]) rfl (by kernel_rfl) (fun _ => by kernel_rfl)) ?_
  rintro z ⟨hz,nz⟩
  refine CfgL.pure 1 [] (some [5,6]) (Γ' := [(6,[],.slice (some a2) l.length cap),(5,[],.slice (some ⟨z,0,none⟩) 0 0)]) (nd := (fun _ => [])) (by kernel_rfl) (fun _ => by kernel_rfl) trivial ?_
  refine CfgL.eff (o := _) rfl (by kernel_rfl) (by kernel_rfl) (Eff.appendA rfl 32 32 Tryz.underlying31 (by kernel_rfl) (z := (.agg #[.int .u8 0,.int .u8 0,.int .u8 0,.int .u8 0,.int .u8 0,.int .u8 0,.int .u8 0,.int .u8 0,.int .u8 0,.int .u8 0,.int .u8 0,.int .u8 0,.int .u8 0,.int .u8 0,.int .u8 0,.int .u8 0,.int .u8 0,.int .u8 0,.int .u8 0,.int .u8 0,.int .u8 0,.int .u8 0,.int .u8 0,.int .u8 0,.int .u8 0,.int .u8 0,.int .u8 0,.int .u8 0,.int .u8 0,.int .u8 0,.int .u8 0,.int .u8 0])) (by kernel_rfl) rfl (some (z,0,[])) (n := 0) (xs := []) (own_zero' z 32) (by kernel_rfl) a2 (m := l.length) (c2 := cap) (by kernel_rfl) (l.flatMap dgc) (flat_len (fun x hx => dgc_len (hW x hx))) (one_flat all_dgc) (fun w1 h j v hj => clo_src hI (fun x hx => dgc_len (hW x hx)) (h.hasR (fun e he => he)) hj) [] rfl (by omega) (by omega)) ?_
  rintro o ko
  refine CfgL.pure 1 [] (some [2]) (Γ' := [(2,[],.slice (Own.a o) ((0 + l.length)) (Own.c o))]) (nd := (fun _ => [])) (by kernel_rfl) (fun _ => by kernel_rfl) trivial ?_
  refine CfgL.done rfl ?_
  refine Cfg.ret rfl (rs := [.tmp 2]) rfl [.slice (Own.a o) ((0 + l.length)) (Own.c o)] ⟨by kernel_rfl,trivial⟩ (fun w1 hp => ?_)
  have ko2 := ko
  rw [Nat.zero_add] at ko2
  exact ⟨o,ko2,by rw [Nat.zero_add]; rfl,fun x hx => hp.own x (by simpa using hx),fun x hx => (hp.mine x (by simpa using hx)).resolve_right (fun h => by cases h),hp.ext⟩
set_option maxRecDepth 100000 in
theorem oFew (m : MM) (w : World) :
  Calls Tryz.prog 17 #[.agg (mc m).toArray] w fun e w' => e = .returned (.bool (fewF m)) ∧ Ext [] w w' := by
 refine enter (vs := [.agg (mc m).toArray]) [] [] [] Tryz.func17 rfl (by kernel_rfl) (HP.start w) ?_
 refine Cfg.begL rfl ?_
 refine CfgL.eff (o := _) rfl (by kernel_rfl) (by kernel_rfl) (Eff.box (v := .agg (mc m).toArray) rfl (by kernel_rfl)) ?_
 rintro b1 ⟨hb1,nb1⟩
 refine CfgL.pure 1 [] (some [1]) (Γ' := [(1,[],.pointer (some ⟨b1,0,none⟩))]) (nd := (fun _ => [])) (by kernel_rfl) (fun _ => by kernel_rfl) trivial ?_
 refine CfgL.done rfl ?_
 refine Cfg.reg rfl [2] [dZ,dZ,(0,false,some (.slice m.va m.vs.length m.vc)),dZ,dZ,dZ,dZ,dZ,(0,false,some (.slice m.ea m.es.length m.ec)),dZ,dZ,dZ,dZ,dZ,(0,false,some (.slice m.ra m.rs.length m.rc))] (Γ' := [(2,[],.bool (((decide ((m.vs.length : Int) ≤ (70 : Int))) && (decide ((m.es.length : Int) ≤ (60 : Int)))) && (decide ((m.rs.length : Int) ≤ (80 : Int)))))]) (nd := (fun S => [(∀ w1,S w1 → w1.cell? ⟨b1,0,none⟩ = some (.slice m.va m.vs.length m.vc)),((.bool (decide ((m.vs.length : Int) ≤ (70 : Int))) : Value) = .bool true → (∀ w1,S w1 → w1.cell? ⟨b1,1,none⟩ = some (.slice m.ea m.es.length m.ec))),((.bool ((decide ((m.vs.length : Int) ≤ (70 : Int))) && (decide ((m.es.length : Int) ≤ (60 : Int)))) : Value) = .bool true → (∀ w1,S w1 → w1.cell? ⟨b1,2,none⟩ = some (.slice m.ra m.rs.length m.rc)))])) (fun _ => by kernel_rfl) ⟨(fun w1 h => h.ocell 0 rfl (by rw [List.getElem?_toArray]; exact rfl)),(fun g0 => have q0 : ((m.vs.length : Int) ≤ (70 : Int)) := (of_decide_eq_true (boolV g0)); (fun w1 h => h.ocell 0 rfl (by rw [List.getElem?_toArray]; exact rfl))),(fun g0 => have q0 : (((m.vs.length : Int) ≤ (70 : Int)) ∧ ((m.es.length : Int) ≤ (60 : Int))) := ⟨(of_decide_eq_true (andT1 (boolV g0))),(of_decide_eq_true (andT2 (boolV g0)))⟩; (fun w1 h => h.ocell 0 rfl (by rw [List.getElem?_toArray]; exact rfl))),trivial⟩ ?_
 refine Cfg.ret rfl (rs := [.tmp 2]) rfl [.bool (((decide ((m.vs.length : Int) ≤ (70 : Int))) && (decide ((m.es.length : Int) ≤ (60 : Int)))) && (decide ((m.rs.length : Int) ≤ (80 : Int))))] ⟨by kernel_rfl,trivial⟩ (fun w1 hp => ?_)
 exact ⟨rfl,hp.ext⟩
end Go.Proofs.YtojefiolcedigaaGreatDoor
