/- Texts on which the proof of this claim stands: I1, I2, K1, K2, K3, K4, K5, K6, K7, K8, K9, K10, K11, I3, I4, I5, I6, I7, I8, IM, I9, I10, I11, I12, I13, I14, I15, I16, I17, I18, I19, I20, I21, I22, IS, IT, K17, K12, K13, K18, K19, K20, K21, K22. -/
import Derived.WalkKit
import Derived.OrdersHeld
import Derived.KernelRfl
import Derived.TacticsIn
import Derived.OrdersIn
import Derived.Below
import Derived.Deep.LoopGhost
import Derived.Sort.LoopGhostIn
import Derived.RangeFuncIn
import Derived.RangeFuncLeaves
import Derived.Stop.BytesEq
import Derived.MapKept
import Derived.Lib.Builder
import Derived.Lib.UnsafeStr
import Derived.Lib.Bytealg
import Derived.Lib.SlKeysI
import Derived.Shelf.SlIterI.Nil
import Derived.RangeFuncNested
import Derived.Lib.AppendStr
import Derived.Lib.Overlaps
namespace Go.Proofs.YtohjpggjgomgoaaGreatDoor
theorem kr {α : Sort _} {a b : α} (h : a = b := by kernel_rfl) : a = b := h
theorem om {p : Prop} (h : p := by omega) : p := h
namespace K
abbrev Ch := List (Nat × Bool)
abbrev Env := List (Nat × Ch × Value)
def Holds (tm : Array Value) (ch : Ch) : Prop := ∀ p ∈ ch,tm.getD p.1 undef = .bool p.2
structure St (n : Nat) (D : List Deferred) (Γ : Env) (a : Act) : Prop where
 size : a.tmps.size = n
 dfr : a.defers = D
 sl : ∀ e ∈ Γ,(Holds a.tmps e.2.1 → a.tmps.getD e.1 undef = e.2.2) ∧ (¬ Holds a.tmps e.2.1 → a.tmps.getD e.1 undef = undef)
def sub (c d : Ch) : Bool := c.all fun p => d.any fun q => Nat.beq q.1 p.1 && (q.2 == p.2)
def find : Env → Nat → Option (Ch × Value)
 | [],_ => none
 | e :: Γ,t => bif Nat.beq e.1 t then some e.2 else find Γ t
def look (Γ : Env) (ch : Ch) (t : Nat) : Option Value :=
 match find Γ t with
 | some e => bif sub e.1 ch then some e.2 else none
 | none => none
def opd (Γ : Env) (ch : Ch) : Operand → Option Value
 | .tmp t => look Γ ch t
 | .const v => some v
 | .global g => some (.pointer (some ⟨g,0,none⟩))
 | .func f => some (.func (.func f) #[] #[])
def put (Γ : Env) (d : Nat) (ch : Ch) (v : Value) : Env :=
 (d,ch,v) :: Γ.filter fun e => !(Nat.beq e.1 d) && !(e.2.1.any fun p => Nat.beq p.1 d)
theorem beq_iff {a b : Nat} : Nat.beq a b = true ↔ a = b := ⟨Nat.eq_of_beq_eq_true,fun h => by rw [h]; exact Nat.beq_refl b⟩
theorem Holds.sub {tm : Array Value} {c d : Ch} (h : Holds tm d) (hs : K.sub c d = true) : Holds tm c := by
 intro p hp
 have h1 := List.all_eq_true.1 hs p hp
 obtain ⟨q,hq,hb⟩ := List.any_eq_true.1 h1
 simp only [Bool.and_eq_true,beq_iff,beq_iff_eq] at hb
 rw [← hb.1,← hb.2]; exact h q hq
theorem find_mem {Γ : Env} {t : Nat} {e : Ch × Value} (h : find Γ t = some e) : (t,e) ∈ Γ := by
 induction Γ with
 | nil => simp [find] at h
 | cons x Γ ih =>
  simp only [find] at h
  cases hb : Nat.beq x.1 t with
  | true => rw [hb] at h; simp only [cond_true,Option.some.injEq] at h; rw [← beq_iff.1 hb,← h]; exact List.mem_cons_self ..
  | false => rw [hb] at h; exact List.mem_cons_of_mem _ (ih h)
theorem look_ok {n : Nat} {D : List Deferred} {Γ : Env} {a : Act} {ch : Ch} {t : Nat} {v : Value} (hs : St n D Γ a) (hc : Holds a.tmps ch) (h : look Γ ch t = some v) : a.tmps.getD t undef = v := by
 unfold look at h
 cases hf : find Γ t with
 | none => rw [hf] at h; cases h
 | some e =>
  rw [hf] at h
  cases hb : K.sub e.1 ch with
  | false => simp [hb] at h
  | true =>
   simp only [hb,cond_true,Option.some.injEq] at h
   rw [← h]
   exact (hs.sl _ (find_mem hf)).1 (hc.sub hb)
theorem opd_ok {n : Nat} {D : List Deferred} {Γ : Env} {a : Act} {ch : Ch} {x : Operand} {v : Value} (hs : St n D Γ a) (hc : Holds a.tmps ch) (h : opd Γ ch x = some v) : a.eval x = v := by
 cases x with
 | tmp t => exact look_ok hs hc h
 | const u => simpa [opd,Act.eval] using h
 | global g => simpa [opd,Act.eval] using h
 | func f => simpa [opd,Act.eval] using h
theorem holds_nil (tm : Array Value) : Holds tm [] := fun _ h => by cases h
theorem getD_set {tm : Array Value} {d t : Nat} {v : Value} : (tm.setIfInBounds d v).getD t undef = if t = d ∧ d < tm.size then v else tm.getD t undef := by
 simp only [Array.getD_eq_getD_getElem?,Array.getElem?_setIfInBounds]
 by_cases h : d = t
 ·subst h
  by_cases hd : d < tm.size
  ·simp [hd]
  ·simp [hd]
 ·have h' : ¬ t = d := fun e => h e.symm
  simp [h,h']
theorem holds_set {tm : Array Value} {d : Nat} {v : Value} {ch : Ch} (h : ch.any (fun p => Nat.beq p.1 d) = false) : Holds (tm.setIfInBounds d v) ch ↔ Holds tm ch := by
 have key : ∀ p ∈ ch,(tm.setIfInBounds d v).getD p.1 undef = tm.getD p.1 undef := by
  intro p hp
  have h1 : ¬ Nat.beq p.1 d = true := fun hb => by
   have h3 : ch.any (fun p => Nat.beq p.1 d) = true := List.any_eq_true.2 ⟨p,hp,hb⟩
   rw [h] at h3; cases h3
  rw [getD_set,if_neg]
  exact fun hh => h1 (beq_iff.2 hh.1)
 exact ⟨fun hh p hp => (key p hp) ▸ hh p hp,fun hh p hp => (key p hp).trans (hh p hp)⟩
theorem put_ok {n : Nat} {D : List Deferred} {Γ : Env} {a : Act} {d : Nat} {ch : Ch} {v u : Value} (hs : St n D Γ a) (hd : d < n) (hch : ch.any (fun p => Nat.beq p.1 d) = false)
  (h1 : Holds a.tmps ch → u = v) (h2 : ¬ Holds a.tmps ch → u = undef) : St n D (put Γ d ch v) (a.put (some d) u) := by
 have hsz : d < a.tmps.size := by rw [hs.size]; exact hd
 refine ⟨by simp [Act.put,hs.size],by simp [Act.put,hs.dfr],?_⟩
 intro e he
 simp only [Act.put]
 rcases List.mem_cons.1 he with rfl | he
 ·simp only [holds_set hch,getD_set,hsz,and_self,if_true]
  exact ⟨h1,h2⟩
 ·obtain ⟨hm,hf⟩ := List.mem_filter.1 he
  simp only [Bool.and_eq_true,Bool.not_eq_true'] at hf
  have hne : ¬ e.1 = d := fun hh => by
   have := beq_iff.2 hh
   rw [hf.1] at this; cases this
  rw [holds_set hf.2,getD_set,if_neg (fun hh => hne hh.1)]
  exact hs.sl e hm
theorem St.mono {n : Nat} {D : List Deferred} {Γ Γ' : Env} {a : Act} (hs : St n D Γ a) (h : ∀ e ∈ Γ',e ∈ Γ) : St n D Γ' a := ⟨hs.size,hs.dfr,fun e he => hs.sl e (h e he)⟩
def keep (ks : List Nat) (Γ : Env) : Env := Γ.filter fun e => e.2.1.isEmpty && ks.any fun k => Nat.beq k e.1
theorem keep_ok {n : Nat} {D : List Deferred} {Γ : Env} {a : Act} (ks : List Nat) (hs : St n D Γ a) : St n D (keep ks Γ) a := hs.mono fun _ he => (List.mem_filter.1 he).1
def lo : IntKind → Int
 | .i8 => -128 | .i16 => -32768 | .i32 => -2147483648 | .i64 => -9223372036854775808 | _ => 0
def hi : IntKind → Int
 | .i8 => 127 | .i16 => 32767 | .i32 => 2147483647 | .i64 => 9223372036854775807 | .u8 => 255 | .u16 => 65535 | .u32 => 4294967295 | .u64 => 18446744073709551615
def md : IntKind → Int
 | .i8 | .u8 => 256 | .i16 | .u16 => 65536 | .i32 | .u32 => 4294967296 | .i64 | .u64 => 18446744073709551616
def sg : IntKind → Bool
 | .i8 | .i16 | .i32 | .i64 => true
 | _ => false
theorem wrap_in {k : IntKind} {n : Int} (h : lo k ≤ n ∧ n ≤ hi k) : k.wrap n = n := by
 cases k <;> simp only [lo,hi] at h <;> simp [IntKind.wrap,IntKind.signed,IntKind.bits] <;> omega
theorem wrap_un {k : IntKind} (hk : sg k = false) (n : Int) : k.wrap n = n % md k := by
 cases k <;> simp only [sg,Bool.true_eq_false] at hk <;> simp [IntKind.wrap,IntKind.signed,IntKind.bits,md]
def nv (k : IntKind) (n : Int) : Value × List Prop :=
 bif sg k then (.int k n,[lo k ≤ n ∧ n ≤ hi k]) else (.int k (n % md k),[])
def All : List Prop → Prop
 | [] => True
 | p :: l => p ∧ All l
theorem All.mem {l : List Prop} (h : All l) : ∀ p ∈ l,p := by
 induction l with
 | nil => intro p hp; cases hp
 | cons q l ih =>
  intro p hp
  rcases List.mem_cons.1 hp with rfl | hp
  ·exact h.1
  ·exact ih h.2 p hp
theorem nv_ok {k : IntKind} {n : Int} (h : ∀ p ∈ (nv k n).2,p) : Value.int k (k.wrap n) = (nv k n).1 := by
 unfold nv at *
 cases hk : sg k with
 | true =>
  simp only [hk,cond_true,List.mem_cons,List.not_mem_nil,or_false,forall_eq] at h
  simp only [cond_true]
  rw [wrap_in h]
 | false => simp only [cond_false]; rw [wrap_un hk]
end K
end Go.Proofs.YtohjpggjgomgoaaGreatDoor
namespace Go.Proofs.YtohjpggjgomgoaaGreatDoor
namespace K
def Yl (P : Program) (S : World → Prop) (ρ : Operand → Value) (o : Oper) (v : Value) : Prop := ∀ w,S w → (execOp ρ o).run P w = .ok (.value v) w
def binI (op : BinOp) (k : IntKind) (a b : Int) : Option (Value × List Prop) :=
 match op with
 | .add => some (nv k (a + b))
 | .sub => some (nv k (a - b))
 | .mul => some (nv k (a * b))
 | .quo => some (.int k (a / b),[0 ≤ a ∧ a ≤ hi k ∧ 0 < b])
 | .rem => some (.int k (a % b),[0 ≤ a ∧ 0 < b])
 | .and => some (.int k ((a.toNat &&& b.toNat : Nat) : Int),[(0 ≤ a ∧ a ≤ hi k) ∧ 0 ≤ b ∧ b ≤ hi k])
 | .or => some (.int k ((a.toNat ||| b.toNat : Nat) : Int),[(0 ≤ a ∧ a ≤ hi k) ∧ 0 ≤ b ∧ b ≤ hi k])
 | .xor => some (.int k ((a.toNat ^^^ b.toNat : Nat) : Int),[(0 ≤ a ∧ a ≤ hi k) ∧ 0 ≤ b ∧ b ≤ hi k])
 | .eql => some (.bool (a == b),[])
 | .neq => some (.bool (a != b),[])
 | .lss => some (.bool (decide (a < b)),[])
 | .leq => some (.bool (decide (a ≤ b)),[])
 | .gtr => some (.bool (decide (a > b)),[])
 | .geq => some (.bool (decide (a ≥ b)),[])
 | _ => none
def binS (op : BinOp) (x y : ByteArray) : Option (Value × List Prop) :=
 match op with
 | .add => some (.string (x ++ y),[x.size + y.size ≤ 9223372036854775807])
 | .eql => some (.bool (x.toList == y.toList),[])
 | .neq => some (.bool (!(x.toList == y.toList)),[])
 | .lss => some (.bool (Op.bytesLess x.toList y.toList),[])
 | .leq => some (.bool (Op.bytesLess x.toList y.toList || x.toList == y.toList),[])
 | .gtr => some (.bool (!(Op.bytesLess x.toList y.toList || x.toList == y.toList)),[])
 | .geq => some (.bool (!(Op.bytesLess x.toList y.toList)),[])
 | _ => none
def cvt (k k' : IntKind) (n : Int) : Value × List Prop :=
 bif sg k' || (!(sg k) && decide (hi k ≤ hi k')) then (.int k' n,[lo k' ≤ n ∧ n ≤ hi k']) else (.int k' (n % md k'),[])
def sbyte (s : ByteArray) (i : Int) : Int := ((s.data.toList.getD i.toNat 0).toNat : Int)
def aggB (P : Program) (t : TypeId) : Bool :=
 match P.underlying t with
 | some (.struct _) | some (.array _ _) => true
 | some _ => false
 | none => true
def addO (off i : Nat) : Nat := match off with
 | 0 => i
 | off => off + i
def mulS (i sz : Nat) : Nat := bif Nat.beq sz 1 then i else i * sz
def pkV (a b : Operand) (c : Bool) (va vb : Value) : Value :=
 match va,vb with
 | .bool x,.bool y =>
  match a,b with
  | .const (.bool true),_ => .bool (c || y)
  | _,.const (.bool false) => .bool (c && x)
  | _,_ => .bool (bif c then x else y)
 | va,vb => bif c then va else vb
def slB (Γ : Env) (ch : Ch) (x : Option Operand) (d : Nat) : Option (Nat × List Prop) :=
 match x with
 | none => some (d,[])
 | some x => match opd Γ ch x with
  | some (.int _ i) => some (i.toNat,[0 ≤ i])
  | _ => none
def partsV (Γ : Env) (ch : Ch) : List (Nat × Operand) → Option (List (Nat × Value))
 | [] => some []
 | p :: l => match opd Γ ch p.2,partsV Γ ch l with
  | some v,some vs => some ((p.1,v) :: vs)
  | _,_ => none
def opdL (Γ : Env) (ch : Ch) : List Operand → Option (List Value)
 | [] => some []
 | x :: l => match opd Γ ch x,opdL Γ ch l with
  | some v,some vs => some (v :: vs)
  | _,_ => none
def evOp (P : Program) (S : World → Prop) (Γ : Env) (ch : Ch) (o : Oper) (raw : Bool) (orc : Option Value) : Option (Value × List Prop) :=
 match raw,orc with
 | true,some v =>
  bif o.op.operands.all (fun x => (opd Γ ch x).isSome) then some (v,[∀ w,S w → (execOp (fun x => (opd Γ ch x).getD undef) o).run P w = .ok (.value v) w]) else none
 | true,none => none
 | false,orc =>
 match o.op with
 | .move x | .assign x => (opd Γ ch x).map fun v => (v,[])
 | .pick (.tmp t) a b =>
  match look Γ ch t,opd Γ ((t,true) :: ch) a,opd Γ ((t,false) :: ch) b with
  | some (.bool c),some va,some vb => some (pkV a b c va vb,[])
  | _,_,_ => none
 | .binOp op ty x y _ =>
  match opd Γ ch x,opd Γ ch y with
  | some (.int k a),some (.int k' b) =>
   match op with
   | .shl => some ((nv k (a * ((2 ^ b.toNat : Nat) : Int))).1,[0 ≤ b ∧ b.toNat ≤ k.bits] ++ (nv k (a * ((2 ^ b.toNat : Nat) : Int))).2)
   | .shr => some (.int k (a / ((2 ^ b.toNat : Nat) : Int)),[0 ≤ b ∧ b.toNat ≤ k.bits])
   | op => bif decide (k = k') then binI op k a b else none
  | some (.string s),some (.string t) => binS op s t
  | some (.bool a),some (.bool b) =>
   match P.underlying ty,op with
   | some .bool,.eql => some (.bool (a == b),[])
   | some .bool,.neq => some (.bool (!(a == b)),[])
   | _,_ => none
  | some (.pointer a),some (.pointer none) =>
   match P.underlying ty,op with
   | some (.pointer _),.eql => some (.bool a.isNone,[])
   | some (.pointer _),.neq => some (.bool (!a.isNone),[])
   | _,_ => none
  | some (.slice a _ _),some (.slice none _ _) =>
   match P.underlying ty,op with
   | some (.slice _),.eql => some (.bool a.isNone,[])
   | some (.slice _),.neq => some (.bool (!a.isNone),[])
   | _,_ => none
  | some (.agg xs),some (.agg ys) =>
   bif P.eqGuardType P.depth ty then none else
   match op,orc with
   | .eql,some (.bool b) => some (.bool b,[∀ w,S w → (Op.equal ty (.agg xs) (.agg ys)).run P w = .ok b w])
   | .neq,some (.bool b) => some (.bool (!b),[∀ w,S w → (Op.equal ty (.agg xs) (.agg ys)).run P w = .ok b w])
   | _,_ => none
  | _,_ => none
 | .unOp .not _ x => match opd Γ ch x with | some (.bool b) => some (.bool (!b),[]) | _ => none
 | .unOp .neg _ x => match opd Γ ch x with | some (.int k n) => some (nv k (0 - n)) | _ => none
 | .unOp .xor _ x => match opd Γ ch x with | some (.int k n) => bif sg k then none else binI .xor k (hi k) n | _ => none
 | .convert src dst x =>
  match P.underlying src,P.underlying dst,opd Γ ch x,orc with
  | some _,some (.int k'),some (.int k n),none => some (cvt k k' n)
  | some (.slice e),some .string,some (.slice a n c),some v =>
   match P.underlying e with
   | some (.int .u8) => some (v,[∀ w,S w → (Conv.bytesToString (.slice a n c)).run P w = .ok v w])
   | _ => none
  | _,_,_,_ => none
 | .build t ps =>
  match partsV Γ ch ps.toList,orc with
  | some vs,some v => some (v,[∀ w,S w → (Instr.build t vs.toArray).run P w = .ok v w])
  | _,_ => none
 | .makeInterface t x => match opd Γ ch x with
  | some v => bif P.concrete t then some (.iface t v,[]) else none
  | none => none
 | .makeFunc (.func f) first caps => match opdL Γ ch first.toList,opdL Γ ch caps.toList with
  | some x,some y => some (.func (.func f) x.toArray y.toArray,[])
  | _,_ => none
 | .extract t i => match opd Γ ch t with | some (.tuple vs) => (vs[i]?).map fun v => (v,[]) | _ => none
 | .nilCheck x => match opd Γ ch x with | some (.pointer (some a)) => some (.pointer (some a),[]) | _ => none
 | .fieldAddr s x f =>
  match P.underlying s,opd Γ ch x with
  | some (.struct fs),some (.pointer (some ⟨b,off,none⟩)) =>
   match fs[f]? with
   | some fl => match P.info? fl.type with
    | some i => bif Nat.beq i.size 0 then none else some (.pointer (some ⟨b,off + fl.offset,none⟩),[])
    | none => none
   | none => none
  | _,_ => none
 | .indexAddr ty x ix =>
  match P.underlying ty,opd Γ ch x,opd Γ ch ix with
  | some (.slice e),some (.slice (some ⟨b,off,none⟩) len _),some (.int _ i) =>
   (P.info? e).map fun inf => (.pointer (some ⟨b,addO off (mulS i.toNat inf.size),none⟩),[0 ≤ i ∧ i < (len : Int)])
  | some (.array len e),some (.pointer (some ⟨b,off,none⟩)),some (.int _ i) =>
   (P.info? e).map fun inf => (.pointer (some ⟨b,addO off (mulS i.toNat inf.size),none⟩),[0 ≤ i ∧ i < (len : Int)])
  | _,_,_ => none
 | .load ty x =>
  match opd Γ ch x,orc with
  | some (.pointer (some a)),some v => bif aggB P ty then some (v,[∀ w,S w → (loadVar ty a).run P w = .ok v w]) else some (v,[∀ w,S w → w.cell? a = some v])
  | _,_ => none
 | .index ty x ix =>
  match P.underlying ty,opd Γ ch x,opd Γ ch ix,orc with
  | some .string,some (.string s),some (.int _ i),none => some (.int .u8 (sbyte s i),[0 ≤ i ∧ i < (s.size : Int)])
  | some (.array len e),some (.agg cs),some (.int _ i),some v =>
   match P.info? e with
   | some inf => bif Nat.beq inf.size 1 && !(aggB P e) then some (v,[0 ≤ i ∧ i < (len : Int),cs[i.toNat]? = some v]) else none
   | none => none
  | _,_,_,_ => none
 | .slice ty x l h none =>
  match P.underlying ty,opd Γ ch x with
  | some .string,some (.string s) =>
   match slB Γ ch l 0,slB Γ ch h s.size with
   | some (l',n1),some (h',n2) => some (.string (s.extract l' h'),n1 ++ n2 ++ [l' ≤ h' ∧ h' ≤ s.size])
   | _,_ => none
  | some (.slice e),some (.slice (some ⟨b,off,none⟩) len cap) =>
   match slB Γ ch h len,P.info? e with
   | some (h',n2),some inf =>
    match l with
    | none => some (.slice (some ⟨b,off,none⟩) h' cap,n2 ++ [h' ≤ cap])
    | some _ => match slB Γ ch l 0 with
     | some (l',n1) => some (.slice (some ⟨b,if cap = l' then off else addO off (mulS l' inf.size),none⟩) (h' - l') (cap - l'),n1 ++ n2 ++ [l' ≤ h' ∧ h' ≤ cap])
     | none => none
   | _,_ => none
  | some (.array n e),some (.pointer (some ⟨b,off,none⟩)) =>
   match slB Γ ch h n,P.info? e with
   | some (h',n2),some inf =>
    match l with
    | none => some (.slice (some ⟨b,off,none⟩) h' n,n2 ++ [h' ≤ n])
    | some _ => match slB Γ ch l 0 with
     | some (l',n1) => some (.slice (some ⟨b,if n = l' then off else addO off (mulS l' inf.size),none⟩) (h' - l') (n - l'),n1 ++ n2 ++ [l' ≤ h' ∧ h' ≤ n])
     | none => none
   | _,_ => none
  | _,_ => none
 | .call c =>
  match c with
  | ⟨.builtin .len,⟨[x]⟩,⟨[ty]⟩⟩ => match P.underlying ty,opd Γ ch x with
   | some .string,some (.string s) => some (.int .i64 (s.size : Int),[])
   | some (.slice _),some (.slice _ n _) => some (.int .i64 (n : Int),[])
   | _,_ => none
  | ⟨.builtin .cap,⟨[x]⟩,⟨[ty]⟩⟩ => match P.underlying ty,opd Γ ch x with
   | some (.slice _),some (.slice _ _ n) => some (.int .i64 (n : Int),[])
   | _,_ => none
  | _ => none
 | _ => none
section
variable {P : Program} {S : World → Prop} {n : Nat} {Γ : Env} {a : Act} {ch : Ch} {w : World}
theorem run_nv {k : IntKind} {x : Int} {v : Value} {nd : List Prop} (h : nv k x = (v,nd)) (hn : ∀ p ∈ nd,p) : Value.int k (k.wrap x) = v := by
 have h2 : (nv k x).2 = nd := by rw [h]
 have h1 : (nv k x).1 = v := by rw [h]
 rw [← h1]; exact nv_ok (by rw [h2]; exact hn)
theorem bits_back {k : IntKind} {m : Nat} (h : (m : Int) ≤ hi k) : k.wrap (m : Int) = (m : Int) := wrap_in ⟨by cases k <;> simp [lo] <;> omega,h⟩
theorem ofInt_toNat {k : IntKind} {x : Int} (h : 0 ≤ x ∧ x ≤ hi k) : (BitVec.ofInt k.bits x).toNat = x.toNat := by
 obtain ⟨h1,h2⟩ := h
 rw [BitVec.toNat_ofInt]
 congr 1
 apply Int.emod_eq_of_lt h1
 cases k <;> simp [hi,IntKind.bits] at * <;> omega
theorem toNat_lt {k : IntKind} {x : Int} (h : 0 ≤ x ∧ x ≤ hi k) : x.toNat < 2 ^ (k.bits - (if sg k then 1 else 0)) := by
 obtain ⟨h1,h2⟩ := h
 cases k <;> simp [hi,IntKind.bits,sg] at * <;> omega
theorem le_hi {k : IntKind} {m : Nat} (h : m < 2 ^ (k.bits - (if sg k then 1 else 0))) : (m : Int) ≤ hi k := by
 cases k <;> simp [hi,IntKind.bits,sg] at * <;> omega
theorem run_binI {op : BinOp} {k : IntKind} {x y : Int} {ty : TypeId} {v : Value} {nd : List Prop} (h : binI op k x y = some (v,nd)) (hn : ∀ p ∈ nd,p) :
  (binOp op ty (.int k x) (.int k y)).run P w = .ok v w := by
 cases op <;> simp only [binI,Option.some.injEq,Prod.mk.injEq,reduceCtorEq] at h
 case add => simp [binOp,Op.intArith,run_nv h hn]
 case sub => simp [binOp,Op.intArith,run_nv h hn]
 case mul => simp [binOp,Op.intArith,run_nv h hn]
 case quo =>
  obtain ⟨rfl,rfl⟩ := h
  obtain ⟨h1,h2,h3⟩ := hn _ (List.mem_cons_self ..)
  have e : x.tdiv y = x / y := Int.tdiv_eq_ediv_of_nonneg h1
  have hb : x / y ≤ x := Int.ediv_le_self _ h1
  have hb0 : 0 ≤ x / y := Int.ediv_nonneg h1 om
  have hw : k.wrap (x / y) = x / y := wrap_in ⟨by cases k <;> simp [lo] <;> omega,by omega⟩
  simp [binOp,Op.intDiv,e,hw,show ¬ y = 0 by omega]
 case rem =>
  obtain ⟨rfl,rfl⟩ := h
  obtain ⟨h1,h3⟩ := hn _ (List.mem_cons_self ..)
  simp [binOp,Op.intDiv,Int.tmod_eq_emod_of_nonneg h1,show ¬ y = 0 by omega]
 case and =>
  obtain ⟨rfl,rfl⟩ := h
  obtain ⟨h1,h2⟩ := hn _ (List.mem_cons_self ..)
  have := bits_back (k := k) (m := x.toNat &&& y.toNat) (le_hi (Nat.and_lt_two_pow _ (toNat_lt h2)))
  simp only [binOp,Op.intBits,ne_eq,not_true_eq_false,if_false,BitVec.toNat_and,ofInt_toNat h1,ofInt_toNat h2,this]; rfl
 case or =>
  obtain ⟨rfl,rfl⟩ := h
  obtain ⟨h1,h2⟩ := hn _ (List.mem_cons_self ..)
  have := bits_back (k := k) (m := x.toNat ||| y.toNat) (le_hi (Nat.or_lt_two_pow (toNat_lt h1) (toNat_lt h2)))
  simp only [binOp,Op.intBits,ne_eq,not_true_eq_false,if_false,BitVec.toNat_or,ofInt_toNat h1,ofInt_toNat h2,this]; rfl
 case xor =>
  obtain ⟨rfl,rfl⟩ := h
  obtain ⟨h1,h2⟩ := hn _ (List.mem_cons_self ..)
  have := bits_back (k := k) (m := x.toNat ^^^ y.toNat) (le_hi (Nat.xor_lt_two_pow (toNat_lt h1) (toNat_lt h2)))
  simp only [binOp,Op.intBits,ne_eq,not_true_eq_false,if_false,BitVec.toNat_xor,ofInt_toNat h1,ofInt_toNat h2,this]; rfl
 all_goals (obtain ⟨rfl,rfl⟩ := h; simp [binOp,Op.intCmp])
theorem run_binS {op : BinOp} {x y : ByteArray} {ty : TypeId} {v : Value} {nd : List Prop} (h : binS op x y = some (v,nd)) (hn : ∀ p ∈ nd,p) :
  (binOp op ty (.string x) (.string y)).run P w = .ok v w := by
 cases op <;> simp only [binS,Option.some.injEq,Prod.mk.injEq,reduceCtorEq] at h
 case add =>
  obtain ⟨rfl,rfl⟩ := h
  have h1 := hn _ (List.mem_cons_self ..)
  have h2 : ¬ ((x.size + y.size : Nat) : Int) > IntKind.i64.max := by rw [IntKind.max_i64]; omega
  simp only [binOp,Op.stringOp,h2,if_false]; rfl
 all_goals (obtain ⟨rfl,rfl⟩ := h; simp [binOp,Op.stringOp])
end
end K
end Go.Proofs.YtohjpggjgomgoaaGreatDoor
namespace Go.Proofs.YtohjpggjgomgoaaGreatDoor
namespace K
section
variable {P : Program} {S : World → Prop} {n : Nat} {D : List Deferred} {Γ : Env} {a : Act} {ch : Ch}
theorem Holds.cons {tm : Array Value} {ch : Ch} {t : Nat} {b : Bool} (h : Holds tm ch) (ht : tm.getD t undef = .bool b) : Holds tm ((t,b) :: ch) := by
 intro p hp
 rcases List.mem_cons.1 hp with rfl | hp
 ·exact ht
 ·exact h p hp
theorem pkV_true (x y : Operand) (va vb : Value) (ha : ∀ b,x = .const (.bool b) → va = .bool b) : pkV x y true va vb = va := by
 unfold pkV
 split
 ·split
  ·have := ha true rfl; simp only [Value.bool.injEq] at this; simp [this]
  ·simp
  ·simp
 ·simp
theorem pkV_false (x y : Operand) (va vb : Value) (hb : ∀ b,y = .const (.bool b) → vb = .bool b) : pkV x y false va vb = vb := by
 unfold pkV
 split
 ·split
  ·simp
  ·have := hb false rfl; simp only [Value.bool.injEq] at this; simp [this]
  ·simp
 ·simp
theorem run_underlying' {t : TypeId} {d : TypeDesc} {w : World} (h : P.underlying t = some d) : (underlying t).run P w = .ok d w := by
 simp [underlying,program,Sem.run,h]
theorem run_sizeOf' {t : TypeId} {i : TypeInfo} {w : World} (h : P.info? t = some i) : (sizeOf t).run P w = .ok i.size w := by
 simp [sizeOf,typeInfo,program,Sem.run,h]
theorem run_isAgg' {t : TypeId} {w : World} (h : aggB P t = false) : (isAgg t).run P w = .ok false w := by
 unfold aggB at h
 split at h
 ·cases h
 ·cases h
 ·rename_i d h1 h2 hd
  simp only [isAgg,Sem.run_bind,run_underlying' hd,Result.andThen_ok]
  cases d <;> simp_all
 ·cases h
theorem add_none (b off m : Nat) : Addr.add ⟨b,off,none⟩ m = ⟨b,off + m,none⟩ := Addr.add_lit b off m
theorem mulS_eq (i sz : Nat) : mulS i sz = i * sz := by
 unfold mulS
 cases h : Nat.beq sz 1 with
 | true => rw [beq_iff.1 h]; simp
 | false => simp
theorem addO_eq (off i : Nat) : addO off i = off + i := by
 unfold addO
 split <;> simp
theorem slB_ok (hs : St n D Γ a) (hc : Holds a.tmps ch) {x : Option Operand} {d m : Nat} {nd : List Prop} (h : slB Γ ch x d = some (m,nd)) (hn : ∀ p ∈ nd,p) :
  (x = none ∧ m = d) ∨ ∃ y k i,x = some y ∧ a.eval y = .int k i ∧ 0 ≤ i ∧ m = i.toNat := by
 unfold slB at h
 split at h
 ·simp only [Option.some.injEq,Prod.mk.injEq] at h; exact .inl ⟨rfl,h.1.symm⟩
 ·rename_i y
  split at h
  ·rename_i k i hy
   simp only [Option.some.injEq,Prod.mk.injEq] at h
   obtain ⟨rfl,rfl⟩ := h
   exact .inr ⟨y,k,i,rfl,opd_ok hs hc hy,hn _ (List.mem_cons_self ..),rfl⟩
  ·cases h
theorem run_sliceBound {x : Value} {y : Nat} {code : BoundsCode} {k : IntKind} {i : Int} {w : World} (hx : x = .int k i) (h0 : 0 ≤ i) (h1 : i.toNat ≤ y) : (Instr.sliceBound x y code).run P w = .ok i.toNat w := by
 subst hx
 have : 0 ≤ i ∧ i ≤ y := ⟨h0,by omega⟩
 simp [Instr.sliceBound,asIntOf,this]
theorem run_sliceBounds (hs : St n D Γ a) (hc : Holds a.tmps ch) {isSlice : Bool} {len cap l h : Nat} {lo hi : Option Operand} {n1 n2 : List Prop} {w : World}
  (hl : slB Γ ch lo 0 = some (l,n1)) (hh : slB Γ ch hi len = some (h,n2)) (hn1 : ∀ p ∈ n1,p) (hn2 : ∀ p ∈ n2,p) (h1 : l ≤ h) (h2 : h ≤ cap) :
  (Instr.sliceBounds isSlice len cap (lo.map a.eval) (hi.map a.eval) none).run P w = .ok (l,h,cap) w := by
 rcases slB_ok hs hc hl hn1 with ⟨rfl,rfl⟩ | ⟨y,k,i,rfl,hy,hi0,rfl⟩ <;> rcases slB_ok hs hc hh hn2 with ⟨rfl,rfl⟩ | ⟨y',k',i',rfl,hy',hi0',rfl⟩
 ·simp [Instr.sliceBounds]
 ·simp [Instr.sliceBounds,run_sliceBound hy' hi0' h2]
 ·simp [Instr.sliceBounds,run_sliceBound hy hi0 h1]
 ·simp [Instr.sliceBounds,run_sliceBound hy' hi0' h2,run_sliceBound hy hi0 h1]
theorem run_equal_bool {ty : TypeId} {x y : Bool} {w : World} (hu : P.underlying ty = some .bool) : (Op.equal ty (.bool x) (.bool y)).run P w = .ok (x == y) w := by
 show (Op.equalIn (9999 + 1) ty _ _).run P w = _
 rw [Op.equalIn]
 simp only [Sem.run_bind,run_underlying' hu,Result.andThen_ok,Sem.run_pure]
theorem run_equal_nil {ty e : TypeId} {x : Option Addr} {w : World} (hu : P.underlying ty = some (.pointer e)) : (Op.equal ty (.pointer x) (.pointer none)).run P w = .ok x.isNone w := by
 show (Op.equalIn (9999 + 1) ty _ _).run P w = _
 rw [Op.equalIn]
 cases x <;> simp only [Sem.run_bind,run_underlying' hu,Result.andThen_ok,Sem.run_pure,Option.isNone]
theorem run_bin_eql {op : BinOp} {ty : TypeId} {x y : Value} {w : World} {b : Bool} (hop : op = .eql ∨ op = .neq) (hx : (∃ c,x = .bool c) ∨ (∃ p,x = .pointer p) ∨ ∃ cs,x = .agg cs) (h : (Op.equal ty x y).run P w = .ok b w) :
  (binOp op ty x y).run P w = .ok (.bool (if op = .eql then b else !b)) w := by
 rcases hop with rfl | rfl <;> rcases hx with ⟨c,rfl⟩ | ⟨p,rfl⟩ | ⟨cs,rfl⟩ <;> simp only [binOp,Sem.run_bind,h,Result.andThen_ok,Sem.run_pure,if_true] <;> rfl
theorem eqGuard_slice (op : BinOp) (t : TypeId) (x y : Operand) (p : Option Addr) (n c : Nat) (v : Value) : eqGuard op t x y (.slice p n c) v = pure () := by cases op <;> rfl
theorem run_equal_snil {ty e : TypeId} {x : Option Addr} {n c n2 c2 : Nat} {w : World} (hu : P.underlying ty = some (.slice e)) : (Op.equal ty (.slice x n c) (.slice none n2 c2)).run P w = .ok x.isNone w := by
 show (Op.equalIn (9999 + 1) ty _ _).run P w = _
 rw [Op.equalIn]
 cases x <;> simp only [Sem.run_bind,run_underlying' hu,Result.andThen_ok,Sem.run_pure,Option.isNone]
theorem run_bin_sl {op : BinOp} {ty : TypeId} {p : Option Addr} {n1 c1 n2 c2 : Nat} {w : World} {b : Bool} (hop : op = .eql ∨ op = .neq) (h : (Op.equal ty (.slice p n1 c1) (.slice none n2 c2)).run P w = .ok b w) :
  (binOp op ty (.slice p n1 c1) (.slice none n2 c2)).run P w = .ok (.bool (if op = .eql then b else !b)) w := by
 rcases hop with rfl | rfl <;> simp only [binOp,Sem.run_bind,h,Result.andThen_ok,Sem.run_pure,if_true] <;> rfl
theorem partsV_ok (hs : St n D Γ a) (hc : Holds a.tmps ch) : ∀ {l : List (Nat × Operand)} {vs : List (Nat × Value)},partsV Γ ch l = some vs → l.map (fun p => (p.1,a.eval p.2)) = vs
 | [],vs,h => by simp only [partsV,Option.some.injEq] at h; rw [← h]; rfl
 | p :: l,vs,h => by
  unfold partsV at h
  split at h
  ·rename_i v us h1 h2
   simp only [Option.some.injEq] at h
   rw [← h,List.map_cons,opd_ok hs hc h1,partsV_ok hs hc h2]
  ·cases h
theorem opdL_ok (hs : St n D Γ a) (hc : Holds a.tmps ch) : ∀ {l : List Operand} {vs : List Value},opdL Γ ch l = some vs → l.map a.eval = vs
 | [],vs,h => by simp only [opdL,Option.some.injEq] at h; rw [← h]; rfl
 | x :: l,vs,h => by
  unfold opdL at h
  split at h
  ·rename_i v us h1 h2
   simp only [Option.some.injEq] at h
   rw [← h,List.map_cons,opd_ok hs hc h1,opdL_ok hs hc h2]
  ·cases h
theorem run_v {s : Sem Value} {v : Value} {w w' : World} (h : s.run P w = .ok v w') : (do pure (Next.value (← s)) : Sem Next).run P w = .ok (.value v) w' := by
 simp [h]
set_option maxHeartbeats 1000000 in
theorem evOp_ok {o : Oper} {raw : Bool} {orc : Option Value} {v : Value} {nd : List Prop} (hs : St n D Γ a) (hc : Holds a.tmps ch)
  (he : evOp P S Γ ch o raw orc = some (v,nd)) (hn : ∀ p ∈ nd,p) (hsel : ∀ cs b,o.op ≠ .select cs b) : Yl P S a.eval o v := by
 intro w hw
 have hO : ∀ {x : Operand} {u : Value},opd Γ ch x = some u → a.eval x = u := fun h => opd_ok hs hc h
 unfold evOp at he
 split at he
 ·
  rename_i u
  cases hb : o.op.operands.all (fun x => (opd Γ ch x).isSome) with
  | false => simp [hb] at he
  | true =>
   simp only [hb,cond_true,Option.some.injEq,Prod.mk.injEq] at he
   obtain ⟨rfl,rfl⟩ := he
   have h1 := hn _ (List.mem_cons_self ..) w hw
   rw [execOp_congr (ρ' := a.eval) o hsel (fun x hx => ?_)] at h1
   ·exact h1
   ·have := Array.all_eq_true_iff_forall_mem.1 hb x hx
    obtain ⟨y,hy⟩ := Option.isSome_iff_exists.1 this
    rw [hy,hO hy]; rfl
 ·cases he
 ·obtain ⟨dst,op,ty,pos,after,guard⟩ := o
  dsimp only at he
  split at he
  ·
   rename_i x hx
   simp only [Option.map_eq_some_iff,Prod.mk.injEq] at he
   obtain ⟨y,hy,rfl,rfl⟩ := he
   simp [execOp,hO hy]
  ·rename_i x hx
   simp only [Option.map_eq_some_iff,Prod.mk.injEq] at he
   obtain ⟨y,hy,rfl,rfl⟩ := he
   simp [execOp,hO hy]
  ·
   rename_i t x y
   split at he
   ·rename_i c va vb h1 h2 h3
    simp only [Option.some.injEq,Prod.mk.injEq] at he
    obtain ⟨rfl,rfl⟩ := he
    have hl : a.eval (.tmp t) = .bool c := look_ok hs hc h1
    have hl' : a.tmps.getD t undef = .bool c := hl
    cases c with
    | true =>
     rw [pkV_true x y va vb (fun b hb => by subst hb; simpa [opd] using h2.symm)]
     simp [execOp,hl,asBool,opd_ok hs (hc.cons hl') h2]
    | false =>
     rw [pkV_false x y va vb (fun b hb => by subst hb; simpa [opd] using h3.symm)]
     simp [execOp,hl,asBool,opd_ok hs (hc.cons hl') h3]
   ·cases he
  ·
   rename_i bop bty x y yty
   split at he
   ·rename_i k u k' u' h1 h2
    split at he
    ·simp only [Option.some.injEq,Prod.mk.injEq] at he
     obtain ⟨rfl,rfl⟩ := he
     obtain ⟨hb0,hb1⟩ := hn _ (List.mem_append_left _ (List.mem_cons_self ..))
     have hm : min u'.toNat k.bits = u'.toNat := Nat.min_eq_left hb1
     have hnv := nv_ok (k := k) (n := u * ((2 ^ u'.toNat : Nat) : Int)) (fun p hp => hn p (List.mem_append_right _ hp))
     rw [← hnv]
     simp [execOp,hO h1,hO h2,binOp,Op.shift,show ¬ u' < 0 by omega,hm,eqGuard]
    ·simp only [Option.some.injEq,Prod.mk.injEq] at he
     obtain ⟨rfl,rfl⟩ := he
     obtain ⟨hb0,hb1⟩ := hn _ (List.mem_cons_self ..)
     have hm : min u'.toNat k.bits = u'.toNat := Nat.min_eq_left hb1
     have hf : u.fdiv (2 ^ u'.toNat) = u / ((2 ^ u'.toNat : Nat) : Int) := by
      rw [Int.fdiv_eq_ediv_of_nonneg _ (Int.le_of_lt (Int.pow_pos (by decide)))]; simp
     simp [execOp,hO h1,hO h2,binOp,Op.shift,show ¬ u' < 0 by omega,hm,eqGuard,hf]
    ·rename_i hne1 hne2
     by_cases hk : k = k'
     ·subst hk
      simp only [decide_true,cond_true] at he
      have := run_binI (P := P) (w := w) (ty := bty) he hn
      simp [execOp,hO h1,hO h2,this,eqGuard_at_int]
     ·simp [hk] at he
   ·rename_i s s' h1 h2
    have := run_binS (P := P) (w := w) (ty := bty) he hn
    simp [execOp,hO h1,hO h2,this,eqGuard_at_string]
   ·rename_i u u' h1 h2
    split at he
    ·rename_i hu
     simp only [Option.some.injEq,Prod.mk.injEq] at he
     obtain ⟨rfl,rfl⟩ := he
     have := run_bin_eql (w := w) (.inl rfl) (.inl ⟨_,rfl⟩) (run_equal_bool (x := u) (y := u') (w := w) hu)
     simp only [execOp,hO h1,hO h2,eqGuard_at_bool,Sem.run_bind,Sem.run_pure,Result.andThen_ok,this]; rfl
    ·rename_i hu
     simp only [Option.some.injEq,Prod.mk.injEq] at he
     obtain ⟨rfl,rfl⟩ := he
     have := run_bin_eql (w := w) (.inr rfl) (.inl ⟨_,rfl⟩) (run_equal_bool (x := u) (y := u') (w := w) hu)
     simp only [execOp,hO h1,hO h2,eqGuard_at_bool,Sem.run_bind,Sem.run_pure,Result.andThen_ok,this]; rfl
    ·cases he
   ·rename_i u h1 h2
    split at he
    ·rename_i hu
     simp only [Option.some.injEq,Prod.mk.injEq] at he
     obtain ⟨rfl,rfl⟩ := he
     have := run_bin_eql (w := w) (.inl rfl) (.inr (.inl ⟨_,rfl⟩)) (run_equal_nil (x := u) (w := w) hu)
     simp only [execOp,hO h1,hO h2,eqGuard_at_pointer,Sem.run_bind,Sem.run_pure,Result.andThen_ok,this]; rfl
    ·rename_i hu
     simp only [Option.some.injEq,Prod.mk.injEq] at he
     obtain ⟨rfl,rfl⟩ := he
     have := run_bin_eql (w := w) (.inr rfl) (.inr (.inl ⟨_,rfl⟩)) (run_equal_nil (x := u) (w := w) hu)
     simp only [execOp,hO h1,hO h2,eqGuard_at_pointer,Sem.run_bind,Sem.run_pure,Result.andThen_ok,this]; rfl
    ·cases he
   ·rename_i u n1 c1 n2 c2 h1 h2
    split at he
    ·rename_i hu
     simp only [Option.some.injEq,Prod.mk.injEq] at he
     obtain ⟨rfl,rfl⟩ := he
     have := run_bin_sl (P := P) (w := w) (.inl rfl) (n1 := n1) (c1 := c1) (n2 := n2) (c2 := c2) (run_equal_snil (x := u) (w := w) hu)
     simp only [execOp,hO h1,hO h2,eqGuard_slice,Sem.run_bind,Sem.run_pure,Result.andThen_ok,this]; rfl
    ·rename_i hu
     simp only [Option.some.injEq,Prod.mk.injEq] at he
     obtain ⟨rfl,rfl⟩ := he
     have := run_bin_sl (P := P) (w := w) (.inr rfl) (n1 := n1) (c1 := c1) (n2 := n2) (c2 := c2) (run_equal_snil (x := u) (w := w) hu)
     simp only [execOp,hO h1,hO h2,eqGuard_slice,Sem.run_bind,Sem.run_pure,Result.andThen_ok,this]; rfl
    ·cases he
   ·rename_i xs ys h1 h2
    cases hgd : P.eqGuardType P.depth bty with
    | true => simp [hgd] at he
    | false =>
     simp only [hgd,cond_false] at he
     split at he
     ·rename_i u
      simp only [Option.some.injEq,Prod.mk.injEq] at he
      obtain ⟨rfl,rfl⟩ := he
      have h3 := hn _ (List.mem_cons_self ..) w hw
      have := run_bin_eql (w := w) (.inl rfl) (.inr (.inr ⟨_,rfl⟩)) h3
      simp only [execOp,hO h1,hO h2,Sem.run_bind,run_eqGuard_agg (P := P) w _ bty x y xs ys hgd,Result.andThen_ok,this,Sem.run_pure]; rfl
     ·rename_i u
      simp only [Option.some.injEq,Prod.mk.injEq] at he
      obtain ⟨rfl,rfl⟩ := he
      have h3 := hn _ (List.mem_cons_self ..) w hw
      have := run_bin_eql (w := w) (.inr rfl) (.inr (.inr ⟨_,rfl⟩)) h3
      simp only [execOp,hO h1,hO h2,Sem.run_bind,run_eqGuard_agg (P := P) w _ bty x y xs ys hgd,Result.andThen_ok,this,Sem.run_pure]; rfl
     ·cases he
   ·cases he
  ·
   split at he
   ·rename_i b h1
    simp only [Option.some.injEq,Prod.mk.injEq] at he
    obtain ⟨rfl,rfl⟩ := he
    simp [execOp,hO h1,Op.unary]
   ·cases he
  ·
   split at he
   ·rename_i k m h1
    simp only [Option.some.injEq] at he
    have := run_nv he hn
    simp [execOp,hO h1,Op.unary,Op.intArith] at *
    exact this
   ·cases he
  ·
   split at he
   ·rename_i k m h1
    cases hk : sg k with
    | true => simp [hk] at he
    | false =>
     simp only [hk,cond_false] at he
     have := run_binI (P := P) (w := w) (ty := 0) he hn
     have h2 : k.signed = false := by cases k <;> first | rfl | cases hk
     have h3 : k.max = hi k := by cases k <;> first | rfl | cases hk
     have h4 : (Op.unary .xor (.int k m)).run P w = (binOp .xor 0 (.int k (hi k)) (.int k m)).run P w := by
      rw [← h3]; simp [Op.unary,h2,binOp]
     simp [execOp,hO h1,h4,this]
   ·cases he
  ·
   rename_i src dst x
   split at he
   ·rename_i d0 k' k m h0 h1 h2
    simp only [Option.some.injEq] at he
    have hw' : Value.int k' (k'.wrap m) = v := by
     unfold cvt at he
     cases hb : (sg k' || (!(sg k) && decide (hi k ≤ hi k'))) with
     | true =>
      simp only [hb,cond_true,Prod.mk.injEq] at he
      obtain ⟨rfl,rfl⟩ := he
      rw [wrap_in (hn _ (List.mem_cons_self ..))]
     | false =>
      simp only [hb,cond_false,Prod.mk.injEq] at he
      obtain ⟨rfl,rfl⟩ := he
      simp only [Bool.or_eq_false_iff] at hb
      rw [wrap_un hb.1]
    simp [execOp,hO h2,convert,run_underlying' h0,run_underlying' h1,Conv.intToInt,hw']
   ·rename_i e x' n' c' u h0 h1 h2
    split at he
    ·rename_i h3
     simp only [Option.some.injEq,Prod.mk.injEq] at he
     obtain ⟨rfl,rfl⟩ := he
     have := hn _ (List.mem_cons_self ..) w hw
     simp [execOp,hO h2,run_convert_bytes_string w src dst e x' n' c' h0 h3 h1,this]
    ·cases he
   ·cases he
  ·
   rename_i t ps
   split at he
   ·rename_i vs u h1
    simp only [Option.some.injEq,Prod.mk.injEq] at he
    obtain ⟨rfl,rfl⟩ := he
    have h2 := hn _ (List.mem_cons_self ..) w hw
    have h3 := partsV_ok hs hc h1
    have h4 : (ps.map fun x => match x with | (i,x) => (i,a.eval x)) = vs.toArray := by
     apply Array.ext'
     rw [← h3]; simp
    simp only [execOp]
    rw [h4]
    exact run_v h2
   ·cases he
  ·
   rename_i t x
   split at he
   ·rename_i u h1
    cases hc' : P.concrete t with
    | false => simp [hc'] at he
    | true =>
     simp only [hc',cond_true,Option.some.injEq,Prod.mk.injEq] at he
     obtain ⟨rfl,rfl⟩ := he
     simp [execOp,hO h1,run_makeInterface (h := hc')]
   ·cases he
  ·
   rename_i f first caps
   split at he
   ·rename_i x y h1 h2
    simp only [Option.some.injEq,Prod.mk.injEq] at he
    obtain ⟨rfl,rfl⟩ := he
    have e1 : first.map a.eval = x.toArray := by
     apply Array.ext'
     simpa using opdL_ok hs hc h1
    have e2 : caps.map a.eval = y.toArray := by
     apply Array.ext'
     simpa using opdL_ok hs hc h2
    simp [execOp,Instr.makeFunc,e1,e2]
   ·cases he
  ·
   rename_i t i
   split at he
   ·rename_i vs h1
    simp only [Option.map_eq_some_iff,Prod.mk.injEq] at he
    obtain ⟨y,hy,rfl,rfl⟩ := he
    simp [execOp,hO h1,Instr.extract,hy]
   ·cases he
  ·
   split at he
   ·rename_i p h1
    simp only [Option.some.injEq,Prod.mk.injEq] at he
    obtain ⟨rfl,rfl⟩ := he
    simp [execOp,hO h1]
   ·cases he
  ·
   rename_i s x f
   split at he
   ·rename_i fs b off h1 h2
    split at he
    ·rename_i fl hf
     split at he
     ·rename_i inf hinf
      cases hz : Nat.beq inf.size 0 with
      | true => simp [hz] at he
      | false =>
       simp only [hz,cond_false,Option.some.injEq,Prod.mk.injEq] at he
       obtain ⟨rfl,rfl⟩ := he
       have hz' : ¬ inf.size = 0 := fun hh => by rw [beq_iff.2 hh] at hz; cases hz
       simp [execOp,hO h2,Instr.fieldAt,run_underlying' h1,hf,Instr.sureAddr,fieldPlace,run_sizeOf' hinf,hz',add_none]
     ·cases he
    ·cases he
   ·cases he
  ·
   rename_i ty' x ix
   split at he
   ·rename_i e b off len cap k i h1 h2 h3
    simp only [Option.map_eq_some_iff,Prod.mk.injEq] at he
    obtain ⟨inf,hinf,rfl,rfl⟩ := he
    have hb := hn _ (List.mem_cons_self ..)
    simp [execOp,hO h2,hO h3,Instr.indexAt,asIntOf,run_underlying' h1,hb,run_sizeOf' hinf,add_none,addO_eq,mulS_eq]
   ·rename_i len e b off k i h1 h2 h3
    simp only [Option.map_eq_some_iff,Prod.mk.injEq] at he
    obtain ⟨inf,hinf,rfl,rfl⟩ := he
    have hb := hn _ (List.mem_cons_self ..)
    simp [execOp,hO h2,hO h3,Instr.indexAt,asIntOf,run_underlying' h1,hb,run_sizeOf' hinf,add_none,addO_eq,mulS_eq,Instr.sureAddr]
   ·cases he
  ·
   rename_i ty' x
   split at he
   ·rename_i p u h1
    cases hg : aggB P ty' with
    | true =>
     simp only [hg,cond_true,Option.some.injEq,Prod.mk.injEq] at he
     obtain ⟨rfl,rfl⟩ := he
     have := hn _ (List.mem_cons_self ..) w hw
     simp [execOp,hO h1,Instr.loadAt,Instr.sureAddr,this]
    | false =>
     simp only [hg,cond_false,Option.some.injEq,Prod.mk.injEq] at he
     obtain ⟨rfl,rfl⟩ := he
     have := hn _ (List.mem_cons_self ..) w hw
     simp [execOp,hO h1,Instr.loadAt,Instr.sureAddr,loadVar,run_isAgg' hg,load,Sem.run,this]
   ·cases he
  ·
   rename_i ty' x ix
   split at he
   ·rename_i s k i h1 h2 h3
    simp only [Option.some.injEq,Prod.mk.injEq] at he
    obtain ⟨rfl,rfl⟩ := he
    obtain ⟨hb0,hb1⟩ := hn _ (List.mem_cons_self ..)
    have hlt : i.toNat < s.size := by omega
    have hg : s[i.toNat]? = some s[i.toNat] := getElem?_pos s i.toNat hlt
    have hv : s.data[i.toNat]?.getD 0 = s[i.toNat] := by
     have : s.data[i.toNat]? = some (s.data[i.toNat]'hlt) := getElem?_pos s.data i.toNat hlt
     rw [this]; rfl
    simp [execOp,hO h2,hO h3,Instr.index,asIntOf,run_underlying' h1,hb0,hg,sbyte,hv]
   ·rename_i len e cs k i u h1 h2 h3
    split at he
    ·rename_i inf hinf
     cases hg : (Nat.beq inf.size 1 && !(aggB P e)) with
     | false => simp [hg] at he
     | true =>
      simp only [hg,cond_true,Option.some.injEq,Prod.mk.injEq] at he
      obtain ⟨rfl,rfl⟩ := he
      have hb := hn _ (List.mem_cons_self ..)
      have hc' := hn _ (List.mem_cons_of_mem _ (List.mem_cons_self ..))
      simp only [Bool.and_eq_true,beq_iff,Bool.not_eq_true'] at hg
      simp [execOp,hO h2,hO h3,Instr.index,asIntOf,run_underlying' h1,hb,run_sizeOf' hinf,hg.1,part,run_isAgg' hg.2,hc']
    ·cases he
   ·cases he
  ·
   rename_i ty' x l h
   split at he
   ·rename_i s h1 h2
    split at he
    ·rename_i l' n1 h' n2 hl hh
     simp only [Option.some.injEq,Prod.mk.injEq] at he
     obtain ⟨rfl,rfl⟩ := he
     obtain ⟨hb1,hb2⟩ := hn _ (List.mem_append_right _ (List.mem_cons_self ..))
     have := run_sliceBounds (P := P) (w := w) (isSlice := false) (cap := s.size) hs hc hl hh (fun p hp => hn p (List.mem_append_left _ (List.mem_append_left _ hp))) (fun p hp => hn p (List.mem_append_left _ (List.mem_append_right _ hp))) hb1 hb2
     simp [execOp,hO h2,Instr.sliceAt,Instr.slice,run_underlying' h1,this]
    ·cases he
   ·rename_i e b off len cap h1 h2
    split at he
    ·rename_i h' n2 inf hh hinf
     split at he
     ·simp only [Option.some.injEq,Prod.mk.injEq] at he
      obtain ⟨rfl,rfl⟩ := he
      have hb2 := hn _ (List.mem_append_right _ (List.mem_cons_self ..))
      have := run_sliceBounds (P := P) (w := w) (isSlice := true) (cap := cap) (lo := none) (l := 0) hs hc rfl hh (fun p hp => by cases hp) (fun p hp => hn p (List.mem_append_left _ hp)) (Nat.zero_le _) hb2
      simp at this
      simp [execOp,hO h2,Instr.sliceAt,Instr.slice,run_underlying' h1,this,run_sizeOf' hinf,Addr.add]
     ·rename_i lx
      split at he
      ·rename_i l' n1 hl
       simp only [Option.some.injEq,Prod.mk.injEq] at he
       obtain ⟨rfl,rfl⟩ := he
       obtain ⟨hb1,hb2⟩ := hn _ (List.mem_append_right _ (List.mem_cons_self ..))
       have := run_sliceBounds (P := P) (w := w) (isSlice := true) (cap := cap) hs hc hl hh (fun p hp => hn p (List.mem_append_left _ (List.mem_append_left _ hp))) (fun p hp => hn p (List.mem_append_left _ (List.mem_append_right _ hp))) hb1 hb2
       simp at this
       simp [execOp,hO h2,Instr.sliceAt,Instr.slice,run_underlying' h1,this,run_sizeOf' hinf,add_none,addO_eq,mulS_eq]
       split <;> rfl
      ·cases he
    ·cases he
   ·rename_i len e b off h1 h2
    split at he
    ·rename_i h' n2 inf hh hinf
     split at he
     ·simp only [Option.some.injEq,Prod.mk.injEq] at he
      obtain ⟨rfl,rfl⟩ := he
      have hb2 := hn _ (List.mem_append_right _ (List.mem_cons_self ..))
      have := run_sliceBounds (P := P) (w := w) (isSlice := false) (cap := len) (lo := none) (l := 0) hs hc rfl hh (fun p hp => by cases hp) (fun p hp => hn p (List.mem_append_left _ hp)) (Nat.zero_le _) hb2
      simp at this
      simp [execOp,hO h2,Instr.sliceAt,Instr.sureAddr,run_underlying' h1,this,run_sizeOf' hinf,Addr.add]
     ·rename_i lx
      split at he
      ·rename_i l' n1 hl
       simp only [Option.some.injEq,Prod.mk.injEq] at he
       obtain ⟨rfl,rfl⟩ := he
       obtain ⟨hb1,hb2⟩ := hn _ (List.mem_append_right _ (List.mem_cons_self ..))
       have := run_sliceBounds (P := P) (w := w) (isSlice := false) (cap := len) hs hc hl hh (fun p hp => hn p (List.mem_append_left _ (List.mem_append_left _ hp))) (fun p hp => hn p (List.mem_append_left _ (List.mem_append_right _ hp))) hb1 hb2
       simp at this
       simp [execOp,hO h2,Instr.sliceAt,Instr.sureAddr,run_underlying' h1,this,run_sizeOf' hinf,add_none,addO_eq,mulS_eq]
       split <;> rfl
      ·cases he
    ·cases he
   ·cases he
  ·
   rename_i c
   split at he
   ·rename_i x ty'
    split at he
    ·rename_i s h1 h2
     simp only [Option.some.injEq,Prod.mk.injEq] at he
     obtain ⟨rfl,rfl⟩ := he
     simp [execOp,resolve,invoke,builtin,Builtin.len_,hO h2,run_underlying' h1,goInt]
    ·rename_i h1 h2
     simp only [Option.some.injEq,Prod.mk.injEq] at he
     obtain ⟨rfl,rfl⟩ := he
     simp [execOp,resolve,invoke,builtin,Builtin.len_,hO h2,run_underlying' h1,goInt]
    ·cases he
   ·rename_i x ty'
    split at he
    ·rename_i h1 h2
     simp only [Option.some.injEq,Prod.mk.injEq] at he
     obtain ⟨rfl,rfl⟩ := he
     simp [execOp,resolve,invoke,builtin,Builtin.cap_,hO h2,run_underlying' h1,goInt]
    ·cases he
   ·cases he
  ·cases he
end
end K
end Go.Proofs.YtohjpggjgomgoaaGreatDoor
namespace Go.Proofs.YtohjpggjgomgoaaGreatDoor
namespace K
abbrev Dir := Nat × Bool × Option Value
def dZ : Dir := (0,false,Option.none)
def tF (a b : Nat) : Array Bool := (List.replicate a true ++ List.replicate b false).toArray
def chainP (Γ : Env) : Ch → Prop → Prop
 | [],q => q
 | (t,b) :: ch,q => match find Γ t with
  | some e => e.2 = .bool b → chainP Γ ch q
  | none => chainP Γ ch q
def step1 (P : Program) (S : World → Prop) (n : Nat) (ops : Array Oper) (Γ : Env) (o : Oper) (d : Dir) : Option (Env × List Prop) :=
 match o.dst with
 | none => none
 | some t =>
  bif Nat.blt t n then
   match o.guard with
   | none => (evOp P S Γ [] o d.2.1 d.2.2).map fun r => (put Γ t [] r.1,r.2)
   | some (j,want) =>
    match (ops[j]?).bind (·.dst) with
    | none => none
    | some tj => match find Γ tj with
     | none => none
     | some e => match d.1 with
      | 1 => bif e.1.isEmpty then (evOp P S Γ [] o d.2.1 d.2.2).map fun r => (put Γ t [] r.1,(e.2 = .bool want) :: r.2) else none
      | 2 => bif e.1.isEmpty then some (put Γ t [] undef,[e.2 ≠ .bool want]) else none
      | _ => bif ((tj,want) :: e.1).any (fun p => Nat.beq p.1 t) then none else
        (evOp P S Γ ((tj,want) :: e.1) o d.2.1 d.2.2).map fun r => (put Γ t ((tj,want) :: e.1) r.1,r.2.map (chainP Γ ((tj,want) :: e.1)))
  else none
def evOps (P : Program) (S : World → Prop) (n : Nat) (ops : Array Oper) : List Oper → List Dir → Env → Option (Env × List Prop)
 | [],_,Γ => some (Γ,[])
 | o :: l,ds,Γ =>
  match step1 P S n ops Γ o (ds.headD dZ) with
  | some (Γ1,n1) => match evOps P S n ops l ds.tail Γ1 with
   | some (Γ2,n2) => some (Γ2,n1 ++ n2)
   | none => none
  | none => none
section
variable {P : Program} {S : World → Prop} {n : Nat} {D : List Deferred} {Γ : Env} {a : Act} {ops : Array Oper}
theorem get_of_getD {tm : Array Value} {t : Nat} {b : Bool} (h : tm.getD t undef = .bool b) : tm[t]? = some (.bool b) := by
 rw [Array.getD_eq_getD_getElem?] at h
 cases hh : tm[t]? with
 | none => rw [hh] at h; simp [undef] at h
 | some x => rw [hh] at h; simp at h; rw [h]
theorem wanted_iff {o : Oper} {j : Nat} {want : Bool} {tj : Nat} {tm : Array Value} (hg : o.guard = some (j,want)) (hj : (ops[j]?).bind (·.dst) = some tj) :
  Region.wanted o (yielded ops tm) = true ↔ tm.getD tj undef = .bool want := by
 simp only [Region.wanted,hg,yielded,hj,Option.bind_some,beq_iff_eq]
 constructor
 ·intro h
  split at h
  ·rename_i b hb
   simp only [Option.some.injEq] at h
   rw [Array.getD_eq_getD_getElem?,hb,h]; rfl
  ·cases h
 ·intro h
  rw [get_of_getD h]
theorem chainP_ok (hs : St n D Γ a) {ch : Ch} (hc : Holds a.tmps ch) {q : Prop} (h : chainP Γ ch q) : q := by
 induction ch with
 | nil => exact h
 | cons p ch ih =>
  obtain ⟨t,b⟩ := p
  have hc' : Holds a.tmps ch := fun p hp => hc p (List.mem_cons_of_mem _ hp)
  unfold chainP at h
  split at h
  ·rename_i e he
   refine ih hc' (h ?_)
   have hsl := hs.sl _ (find_mem he)
   have ht := hc (t,b) (List.mem_cons_self ..)
   by_cases hh : Holds a.tmps e.1
   ·rw [← hsl.1 hh]; exact ht
   ·rw [hsl.2 hh] at ht; simp [undef] at ht
  ·exact ih hc' h
theorem step1_ok {o : Oper} {d : Dir} {Γ' : Env} {nd : List Prop} (hs : St n D Γ a) (hsel : ∀ cs b,o.op ≠ .select cs b) (h : step1 P S n ops Γ o d = some (Γ',nd)) (hn : ∀ p ∈ nd,p) :
  ∃ u,YieldsIf P ops S o u a ∧ St n D Γ' (a.put o.dst u) := by
 unfold step1 at h
 split at h
 ·cases h
 ·rename_i t ht
  cases hlt : Nat.blt t n with
  | false => simp [hlt] at h
  | true =>
  have hlt' : t < n := Nat.lt_of_succ_le (Nat.le_of_ble_eq_true hlt)
  rw [ht]
  simp only [hlt,cond_true] at h
  split at h
  ·rename_i hg
   simp only [Option.map_eq_some_iff,Prod.mk.injEq] at h
   obtain ⟨⟨v,nd'⟩,he,rfl,rfl⟩ := h
   refine ⟨v,.inl ⟨by simp [Region.wanted,hg],evOp_ok hs (holds_nil _) he hn hsel⟩,put_ok hs hlt' rfl (fun _ => rfl) (fun hh => absurd (holds_nil _) hh)⟩
  ·rename_i j want hg
   split at h
   ·cases h
   ·rename_i tj hj
    split at h
    ·cases h
    ·rename_i e hf
     have hsl := hs.sl _ (find_mem hf)
     split at h
     ·cases hem : e.1.isEmpty with
      | false => simp [hem] at h
      | true =>
       have hem' : e.1 = [] := List.isEmpty_iff.1 hem
       simp only [hem,cond_true,Option.map_eq_some_iff,Prod.mk.injEq] at h
       obtain ⟨⟨v,nd'⟩,he,rfl,rfl⟩ := h
       have hw : e.2 = .bool want := hn _ (List.mem_cons_self ..)
       have hslot := hsl.1 (by rw [hem']; exact holds_nil _)
       refine ⟨v,.inl ⟨(wanted_iff hg hj).2 (hslot.trans hw),evOp_ok hs (holds_nil _) he (fun p hp => hn p (List.mem_cons_of_mem _ hp)) hsel⟩,put_ok hs hlt' rfl (fun _ => rfl) (fun hh => absurd (holds_nil _) hh)⟩
     ·cases hem : e.1.isEmpty with
      | false => simp [hem] at h
      | true =>
       have hem' : e.1 = [] := List.isEmpty_iff.1 hem
       simp only [hem,cond_true,Option.some.injEq,Prod.mk.injEq] at h
       obtain ⟨rfl,rfl⟩ := h
       have hw : e.2 ≠ .bool want := hn _ (List.mem_cons_self ..)
       have hslot := hsl.1 (by rw [hem']; exact holds_nil _)
       refine ⟨undef,.inr ⟨?_,rfl⟩,put_ok hs hlt' rfl (fun _ => rfl) (fun hh => absurd (holds_nil _) hh)⟩
       cases hb : Region.wanted o (yielded ops a.tmps) with
       | false => rfl
       | true => exact absurd (hslot.symm.trans ((wanted_iff hg hj).1 hb)) hw
     ·cases hany : ((tj,want) :: e.1).any (fun p => Nat.beq p.1 t) with
      | true => simp only [hany,cond_true] at h; cases h
      | false =>
       simp only [hany,cond_false,Option.map_eq_some_iff,Prod.mk.injEq] at h
       obtain ⟨⟨v,nd'⟩,he,rfl,rfl⟩ := h
       by_cases hh : Holds a.tmps ((tj,want) :: e.1)
       ·refine ⟨v,.inl ⟨(wanted_iff hg hj).2 (hh (tj,want) (List.mem_cons_self ..)),evOp_ok hs hh he (fun p hp => ?_) hsel⟩,put_ok hs hlt' hany (fun _ => rfl) (fun h' => absurd hh h')⟩
        exact chainP_ok hs hh (hn _ (List.mem_map.2 ⟨p,hp,rfl⟩))
       ·refine ⟨undef,.inr ⟨?_,rfl⟩,put_ok hs hlt' hany (fun h' => absurd h' hh) (fun _ => rfl)⟩
        cases hb : Region.wanted o (yielded ops a.tmps) with
        | false => rfl
        | true =>
         have hslot := (wanted_iff hg hj).1 hb
         exfalso
         by_cases h' : Holds a.tmps e.1
         ·exact hh (h'.cons hslot)
         ·rw [hsl.2 h'] at hslot; simp [undef] at hslot
variable {Q : Exit → Act → World → Prop} {w : World}
def fen (ro : Option Nat) : Fence := { Fence.wide with round := ro }
theorem semAt_run {ro : Option Nat} {ev : Operand → Value} {o : Oper} {x : Next} {w' : World} (h : (execOp ev o).run P w = .ok x w') (hx : ∀ d,x ≠ .defer d) : (o.semAt ro ev).run P w = .ok x w' := by
 rw [Oper.semAt_eq]
 ·exact h
 ·intro c hc
  obtain ⟨dst,op,oty,pos,after,guard⟩ := o
  simp only at hc
  subst hc
  simp only [execOp,Sem.run_bind] at h
  cases hr : (resolve ev c oty).run P w with
  | ok d w1 =>
   simp only [hr,Result.andThen_ok,Sem.run_pure,Result.ok.injEq] at h
   exact hx d h.1.symm
  | halt z w1 => simp [hr] at h
theorem wplIn_pure {ro : Option Nat} {l2 : List Oper} : ∀ (l : List Oper) (ds : List Dir) (Γ : Env) (a : Act) {Γ' : Env} {nd : List Prop},(∀ o ∈ l,∀ cs b,o.op ≠ .select cs b) → St n D Γ a →
  evOps P S n ops l ds Γ = some (Γ',nd) → (∀ p ∈ nd,p) → S w → (∀ a',St n D Γ' a' → wpListIn (fen ro) 0 P ops Q l2 a' w) → wpListIn (fen ro) 0 P ops Q (l ++ l2) a w
 | [],_,Γ,a,Γ',nd,_,hs,he,_,_,h => by
  simp only [evOps,Option.some.injEq,Prod.mk.injEq] at he
  exact h a (he.1 ▸ hs)
 | o :: l,ds,Γ,a,Γ',nd,hsel,hs,he,hn,hS,h => by
  unfold evOps at he
  split at he
  ·rename_i Γ1 n1 h1
   split at he
   ·rename_i Γ2 n2 h2
    simp only [Option.some.injEq,Prod.mk.injEq] at he
    obtain ⟨rfl,rfl⟩ := he
    obtain ⟨u,hy,hs'⟩ := step1_ok (P := P) (S := S) hs (hsel o (List.mem_cons_self ..)) h1 (fun p hp => hn p (List.mem_append_left _ hp))
    have ih := wplIn_pure l ds.tail Γ1 (a.put o.dst u) (fun o ho => hsel o (List.mem_cons_of_mem _ ho)) hs' h2 (fun p hp => hn p (List.mem_append_right _ hp)) hS h
    show wpListIn (fen ro) 0 P ops Q (o :: (l ++ l2)) a w
    unfold wpListIn
    rcases hy with ⟨hw,hv⟩ | ⟨hw,rfl⟩
    ·rw [if_pos hw]
     refine ⟨fun _ _ => trivial,?_⟩
     rw [semAt_run (hv w hS) (fun d hd => by cases hd)]
     exact ih
    ·rw [hw]; exact ⟨fun _ _ => trivial,ih⟩
   ·cases he
  ·cases he
def takes (md : Region.Mode) (ops : Array Oper) : Array Bool → List Nat → Option (Array Bool)
 | l,[] => some l
 | l,i :: is => bif Region.free md ops l i && (Region.ready md ops l).contains i then takes md ops (l.setIfInBounds i true) is else none
def opsAt (ops : Array Oper) : List Nat → Option (List Oper)
 | [] => some []
 | i :: is => match ops[i]?,opsAt ops is with
  | some o,some l => some (o :: l)
  | _,_ => none
def PanicOk (Q : Exit → Act → World → Prop) : Prop := ∀ c a w d v,Q (.panic c) (a.put d v) w → Q (.panic c) a w
theorem any_pure (hsel : Region.noSelect ops = true) (hQ : PanicOk Q) {fuel : Nat} {l' : Array Bool} : ∀ (is : List Nat) (os : List Oper) (ds : List Dir) (l : Array Bool) (Γ : Env) (a : Act) {Γ' : Env} {nd : List Prop},
  takes .any ops l is = some l' → opsAt ops is = some os → St n D Γ a → evOps P S n ops os ds Γ = some (Γ',nd) → (∀ p ∈ nd,p) → S w →
  (∀ a',St n D Γ' a' → wpAnyH P .any ops Q S fuel l' a' w) → wpAnyH P .any ops Q S (fuel + is.length) l a w
 | [],os,ds,l,Γ,a,Γ',nd,ht,ho,hs,he,_,_,h => by
  simp only [takes,Option.some.injEq] at ht
  simp only [opsAt,Option.some.injEq] at ho
  subst ht; subst ho
  simp only [evOps,Option.some.injEq,Prod.mk.injEq] at he
  exact h a (he.1 ▸ hs)
 | i :: is,os,ds,l,Γ,a,Γ',nd,ht,ho,hs,he,hn,hS,h => by
  unfold takes at ht
  unfold opsAt at ho
  split at ho
  ·rename_i o os' hi hos
   simp only [Option.some.injEq] at ho
   subst ho
   cases hb : (Region.free .any ops l i && (Region.ready .any ops l).contains i) with
   | false => simp only [hb,cond_false] at ht; cases ht
   | true =>
    simp only [hb,cond_true] at ht
    simp only [Bool.and_eq_true] at hb
    unfold evOps at he
    split at he
    ·rename_i Γ1 n1 h1
     split at he
     ·rename_i Γ2 n2 h2
      simp only [Option.some.injEq,Prod.mk.injEq] at he
      obtain ⟨rfl,rfl⟩ := he
      obtain ⟨u,hy,hs'⟩ := step1_ok (P := P) (S := S) hs (Region.noSelect_spec hsel i o · · hi) h1 (fun p hp => hn p (List.mem_append_left _ hp))
      have ih := any_pure hsel hQ is os' ds.tail _ Γ1 (a.put o.dst u) ht hos hs' h2 (fun p hp => hn p (List.mem_append_right _ hp)) hS h
      exact wpAnyH_take hi hsel hb.1 hb.2 (fun c a w hq => hQ c a w _ _ hq) hy hS ih
     ·cases he
    ·cases he
  ·cases ho
end
end K
end Go.Proofs.YtohjpggjgomgoaaGreatDoor
namespace Go.Proofs.YtohjpggjgomgoaaGreatDoor
namespace K
structure Ext (M : List Nat) (w w' : World) : Prop where
 os : w'.os = w.os
 tape : w'.tape = w.tape
 output : w'.output = w.output
 size : w.heap.size ≤ w'.heap.size
 block : ∀ k,k < w.heap.size → k ∉ M → w'.heap[k]? = w.heap[k]?
theorem Ext.refl (M : List Nat) (w : World) : Ext M w w := ⟨rfl,rfl,rfl,Nat.le_refl _,fun _ _ _ => rfl⟩
theorem Ext.trans {M M' : List Nat} {w w1 w2 : World} (h : Ext M w w1) (h' : Ext M' w1 w2) (hM : ∀ k ∈ M',k < w.heap.size → k ∈ M) : Ext M w w2 :=
 ⟨h'.os.trans h.os,h'.tape.trans h.tape,h'.output.trans h.output,Nat.le_trans h.size h'.size,fun k hk hn =>
  (h'.block k (Nat.lt_of_lt_of_le hk h.size) (fun hm => hn (hM k hm hk))).trans (h.block k hk hn)⟩
theorem Ext.below {w w' : World} (h : Ext [] w w') : RowKit.Below w.heap.size w w' := ⟨h.os,h.tape,h.output,h.size,fun k hk => h.block k hk (by simp)⟩
structure HP (w0 : World) (M : List Nat) (R O : List (Nat × Obj)) (w : World) : Prop where
 ext : Ext M w0 w
 ro : ∀ e ∈ R,w.heap[e.1]? = some e.2
 rod : ∀ e ∈ R,e.1 < w0.heap.size ∧ e.1 ∉ M
 own : ∀ e ∈ O,w.heap[e.1]? = some e.2
 dist : (O.map (·.1)).Nodup
 mine : ∀ e ∈ O,w0.heap.size ≤ e.1 ∨ e.1 ∈ M
section
variable {w0 w w' : World} {M : List Nat} {R O : List (Nat × Obj)}
theorem lt_of_get {b : Nat} {o : Obj} (h : w.heap[b]? = some o) : b < w.heap.size := by
 rcases Nat.lt_or_ge b w.heap.size with hh | hh
 ·exact hh
 ·rw [Array.getElem?_eq_none hh] at h; cases h
theorem HP.call (h : HP w0 M R O w) {M' : List Nat} (hx : Ext M' w w') (O' : List (Nat × Obj)) (hO : O'.Sublist O) (hM : ∀ k ∈ M',k ∈ O.map (·.1)) (hd : ∀ e ∈ O',e.1 ∉ M') : HP w0 M R O' w' := by
 have hM0 : ∀ k ∈ M',k < w0.heap.size → k ∈ M := by
  intro k hk hlt
  obtain ⟨e,he,rfl⟩ := List.mem_map.1 (hM k hk)
  rcases h.mine e he with h1 | h1
  ·omega
  ·exact h1
 refine ⟨h.ext.trans hx hM0,fun e he => ?_,h.rod,fun e he => ?_,?_,fun e he => h.mine e (hO.subset he)⟩
 ·have hr := h.ro e he
  rw [hx.block e.1 (lt_of_get hr) (fun hm => (h.rod e he).2 (hM0 _ hm (h.rod e he).1))]; exact hr
 ·have ho := h.own e (hO.subset he)
  rw [hx.block e.1 (lt_of_get ho) (hd e he)]; exact ho
 ·exact h.dist.sublist (hO.map _)
theorem HP.calm (h : HP w0 M R O w) (hx : Ext [] w w') : HP w0 M R O w' := h.call hx O (List.Sublist.refl _) (fun _ hk => by cases hk) (fun _ _ => by simp)
theorem HP.add (h : HP w0 M R O w) {b : Nat} {o : Obj} (hb : w.heap[b]? = some o) (hn : b ∉ O.map (·.1)) (hm : w0.heap.size ≤ b ∨ b ∈ M) : HP w0 M R ((b,o) :: O) w :=
 ⟨h.ext,h.ro,h.rod,fun e he => by
  rcases List.mem_cons.1 he with rfl | he
  ·exact hb
  ·exact h.own e he,by simp only [List.map_cons]; exact List.nodup_cons.2 ⟨hn,h.dist⟩,fun e he => by
  rcases List.mem_cons.1 he with rfl | he
  ·exact hm
  ·exact h.mine e he⟩
theorem HP.fresh (h : HP w0 M R O w) {b : Nat} (hb : w.heap.size ≤ b) : b ∉ O.map (·.1) := by
 intro hm
 obtain ⟨e,he,rfl⟩ := List.mem_map.1 hm
 have := lt_of_get (h.own e he)
 omega
theorem HP.sub (h : HP w0 M R O w) {O' : List (Nat × Obj)} (hO : O'.Sublist O) : HP w0 M R O' w :=
 ⟨h.ext,h.ro,h.rod,fun e he => h.own e (hO.subset he),h.dist.sublist (hO.map _),fun e he => h.mine e (hO.subset he)⟩
theorem ext_drew (w : World) : Ext [] w { w with drawn := w.drawn + 1 } := ⟨rfl,rfl,rfl,Nat.le_refl _,fun _ _ _ => rfl⟩
theorem ext_alloc (w : World) (o : Obj) : Ext [] w (w.alloc o) :=
 ⟨rfl,rfl,rfl,by show w.heap.size ≤ (w.heap.push o).size; simp,fun k hk _ => by
  show (w.heap.push o)[k]? = w.heap[k]?
  rw [Array.getElem?_push,if_neg om]⟩
theorem get_alloc (w : World) (o : Obj) : (w.alloc o).heap[w.heap.size]? = some o := by
 show (w.heap.push o)[w.heap.size]? = some o
 simp
theorem HP.drew (h : HP w0 M R O w) : HP w0 M R O { w with drawn := w.drawn + 1 } := h.calm (ext_drew w)
theorem HP.alloc (h : HP w0 M R O w) (o : Obj) : HP w0 M R ((w.heap.size,o) :: O) (w.alloc o) :=
 (h.calm (ext_alloc w o)).add (get_alloc w o) (h.fresh (Nat.le_refl _)) (.inl h.ext.size)
theorem nodup_inj {l : List Nat} (h : l.Nodup) {i j x : Nat} (hi : l[i]? = some x) (hj : l[j]? = some x) : i = j := by
 induction l generalizing i j with
 | nil => simp at hi
 | cons y l ih =>
  obtain ⟨h1,h2⟩ := List.nodup_cons.1 h
  cases i with
  | zero =>
   cases j with
   | zero => rfl
   | succ j => simp at hi hj; subst hi; exact absurd (List.mem_of_getElem? hj) h1
  | succ i =>
   cases j with
   | zero => simp at hi hj; subst hj; exact absurd (List.mem_of_getElem? hi) h1
   | succ j => simp at hi hj; rw [ih h2 hi hj]
theorem HP.set (h : HP w0 M R O w) (i : Nat) {b : Nat} {o : Obj} (o' : Obj) (hi : O[i]? = some (b,o)) (hw : w'.heap = w.heap.setIfInBounds b o') (h1 : w'.os = w.os) (h2 : w'.tape = w.tape) (h3 : w'.output = w.output) :
  HP w0 M R (O.set i (b,o')) w' := by
 have hmem : (b,o) ∈ O := List.mem_of_getElem? hi
 have hlt : i < O.length := (List.getElem?_eq_some_iff.1 hi).1
 have hbl := lt_of_get (h.own _ hmem)
 have hother : ∀ e ∈ O.set i (b,o'),e = (b,o') ∨ (e ∈ O ∧ e.1 ≠ b) := by
  intro e he
  obtain ⟨j,hj⟩ := List.mem_iff_getElem?.1 he
  rw [List.getElem?_set] at hj
  by_cases hij : i = j
  ·subst hij
   simp [hlt] at hj
   exact .inl hj.symm
  ·rw [if_neg hij] at hj
   refine .inr ⟨List.mem_of_getElem? hj,fun hb => hij ?_⟩
   have e1 : (O.map (·.1))[i]? = some b := by simp [hi]
   have e2 : (O.map (·.1))[j]? = some b := by simp [hj,hb]
   exact nodup_inj h.dist e1 e2
 have hmap : (O.set i (b,o')).map (·.1) = O.map (·.1) := by
  rw [List.map_set]
  apply List.ext_getElem?
  intro j
  rw [List.getElem?_set]
  by_cases hij : i = j
  ·subst hij; simp [hlt]; have := (List.getElem?_eq_some_iff.1 hi).2; rw [this]
  ·rw [if_neg hij]
 have hget : ∀ k,k ≠ b → w'.heap[k]? = w.heap[k]? := fun k hk => by rw [hw]; simp [Ne.symm hk]
 refine ⟨⟨h1.trans h.ext.os,h2.trans h.ext.tape,h3.trans h.ext.output,by rw [hw]; simpa using h.ext.size,fun k hk hn => ?_⟩,fun e he => ?_,h.rod,fun e he => ?_,by rw [hmap]; exact h.dist,fun e he => ?_⟩
 ·have hkb : k ≠ b := by
   rintro rfl
   rcases h.mine _ hmem with hh | hh
   ·simp only at hh; omega
   ·exact hn hh
  rw [hget k hkb]; exact h.ext.block k hk hn
 ·have hkb : e.1 ≠ b := by
   intro hb
   rcases h.mine _ hmem with hh | hh
   ·have := (h.rod e he).1; simp only at hh; omega
   ·exact (h.rod e he).2 (hb ▸ hh)
  rw [hget _ hkb]; exact h.ro e he
 ·rcases hother e he with rfl | ⟨he',hne⟩
  ·simp [hw,hbl]
  ·rw [hget _ hne]; exact h.own e he'
 ·rcases hother e he with rfl | ⟨he',_⟩
  ·exact h.mine (b,o) hmem
  ·exact h.mine e he'
theorem cell_cells {b off : Nat} {cs : Array Value} {t : TypeId} {fr : Nat × Nat} (h : w.heap[b]? = some (.cells cs t fr)) : w.cell? ⟨b,off,none⟩ = cs[off]? := by
 simp [World.cell?,h]
theorem HP.rcell (h : HP w0 M R O w) (i : Nat) {b off : Nat} {cs : Array Value} {t : TypeId} {fr : Nat × Nat} {v : Value} (hi : R[i]? = some (b,.cells cs t fr)) (hv : cs[off]? = some v) : w.cell? ⟨b,off,none⟩ = some v := by
 rw [cell_cells (h.ro _ (List.mem_of_getElem? hi))]; exact hv
theorem HP.ocell (h : HP w0 M R O w) (i : Nat) {b off : Nat} {cs : Array Value} {t : TypeId} {fr : Nat × Nat} {v : Value} (hi : O[i]? = some (b,.cells cs t fr)) (hv : cs[off]? = some v) : w.cell? ⟨b,off,none⟩ = some v := by
 rw [cell_cells (h.own _ (List.mem_of_getElem? hi))]; exact hv
theorem setCell_heap {b off : Nat} {cs : Array Value} {t : TypeId} {fr : Nat × Nat} {v : Value} (h : w.heap[b]? = some (.cells cs t fr)) :
  (w.setCell ⟨b,off,none⟩ v).heap = w.heap.setIfInBounds b (.cells (cs.setIfInBounds off v) t fr) := by
 apply Array.ext_getElem?
 intro k
 have hb := lt_of_get h
 simp only [World.setCell,Array.getElem?_modify,Array.getElem?_setIfInBounds]
 by_cases hk : b = k
 ·subst hk
  have h' : w.heap[b] = .cells cs t fr := by simpa [Array.getElem?_eq_getElem hb] using h
  simp [hb,h']
 ·simp [hk]
theorem HP.setCell (h : HP w0 M R O w) (i : Nat) {b off : Nat} {cs : Array Value} {t : TypeId} {fr : Nat × Nat} (v : Value) (hi : O[i]? = some (b,.cells cs t fr)) :
  HP w0 M R (O.set i (b,.cells (cs.setIfInBounds off v) t fr)) (w.setCell ⟨b,off,none⟩ v) :=
 h.set i _ hi (setCell_heap (h.own _ (List.mem_of_getElem? hi))) rfl rfl rfl
end
end K
end Go.Proofs.YtohjpggjgomgoaaGreatDoor
namespace Go.Proofs.YtohjpggjgomgoaaGreatDoor
namespace K
abbrev KI := Code ⊕ Nat ⊕ (Act → World → Prop)
def aft (P : Program) (ro : Option Nat) (Q : Exit → Act → World → Prop) : List KI → Exit → Act → World → Prop
 | [],e,a,w => Q e a w
 | .inl c :: ks,e,a,w => match e with
  | .normal => c.wpIn (fen ro) 0 P (aft P ro Q ks) a w
  | e => aft P ro Q ks e a w
 | .inr (.inl id) :: ks,e,a,w => match e with
  | .exit j => if j = id then aft P ro Q ks .normal a w else aft P ro Q ks (.exit j) a w
  | e => aft P ro Q ks e a w
 | .inr (.inr I) :: ks,e,a,w => match e with
  | .normal => I a w
  | e => aft P ro Q ks e a w
def popTo (id : Nat) : List KI → Option (List KI)
 | [] => none
 | .inr (.inl j) :: ks => bif Nat.beq j id then some ks else popTo id ks
 | .inl _ :: ks => popTo id ks
 | .inr (.inr _) :: ks => popTo id ks
def nrm : Nat → List KI → List KI
 | 0,ks => ks
 | f + 1,ks => match ks with
  | .inl (.seq x y) :: ks => nrm f (.inl x :: .inl y :: ks)
  | .inl (.block id c) :: ks => nrm f (.inl c :: .inr (.inl id) :: ks)
  | .inl .skip :: ks => nrm f ks
  | .inl (.label _) :: ks => nrm f ks
  | .inr (.inl _) :: ks => nrm f ks
  | .inl (.exit id) :: ks => match popTo id ks with
   | some ks' => nrm f ks'
   | none => .inl (.exit id) :: ks
  | ks => ks
section
variable {P : Program} {ro : Option Nat} {Q : Exit → Act → World → Prop} {a : Act} {w : World}
theorem aft_code (y : Code) (ks : List KI) : aft P ro Q (.inl y :: ks) = Exit.then (y.wpIn (fen ro) 0 P (aft P ro Q ks)) (aft P ro Q ks) := by
 funext e a w
 cases e <;> rfl
theorem aft_block (id : Nat) (ks : List KI) : aft P ro Q (.inr (.inl id) :: ks) = Exit.inBlock id (aft P ro Q ks) := by
 funext e a w
 cases e <;> rfl
theorem aft_inv (I : Act → World → Prop) (ks : List KI) : aft P ro Q (.inr (.inr I) :: ks) = Exit.then I (aft P ro Q ks) := by
 funext e a w
 cases e <;> rfl
theorem popTo_ok {id : Nat} : ∀ {ks ks' : List KI},popTo id ks = some ks' → aft P ro Q ks' .normal a w → aft P ro Q ks (.exit id) a w
 | [],_,h,_ => by cases h
 | .inr (.inl j) :: ks,ks',h,h' => by
  simp only [popTo] at h
  cases hb : Nat.beq j id with
  | true =>
   simp only [hb,cond_true,Option.some.injEq] at h
   subst h
   rw [beq_iff.1 hb]
   show (if id = id then _ else _)
   rw [if_pos rfl]; exact h'
  | false =>
   simp only [hb,cond_false] at h
   have hne : ¬ id = j := fun e => by
    have := beq_iff.2 e.symm
    rw [hb] at this; cases this
   show (if id = j then _ else _)
   rw [if_neg hne]; exact popTo_ok h h'
 | .inl _ :: ks,ks',h,h' => popTo_ok (ks := ks) h h'
 | .inr (.inr _) :: ks,ks',h,h' => popTo_ok (ks := ks) h h'
theorem nrm_ok : ∀ (f : Nat) {ks : List KI},aft P ro Q (nrm f ks) .normal a w → aft P ro Q ks .normal a w
 | 0,_,h => h
 | f + 1,ks,h => by
  unfold nrm at h
  split at h
  ·rename_i x y ks
   have := nrm_ok f h
   show Code.wpIn (fen ro) 0 P (Code.seq x y) (aft P ro Q ks) a w
   refine wpIn_seq ?_
   rw [← aft_code]; exact this
  ·rename_i id c ks
   have := nrm_ok f h
   show Code.wpIn (fen ro) 0 P (Code.block id c) (aft P ro Q ks) a w
   refine wpIn_block ?_
   rw [← aft_block]; exact this
  ·exact wpIn_skip (nrm_ok f h)
  ·exact wpIn_label (nrm_ok f h)
  ·rename_i ks
   exact nrm_ok (ks := ks) f h
  ·rename_i id ks
   split at h
   ·rename_i ks' hp
    exact wpIn_exit (popTo_ok hp (nrm_ok f h))
   ·exact h
  ·exact h
theorem aft_ret : ∀ (ks : List KI),Q .ret a w → aft P ro Q ks .ret a w
 | [],h => h
 | .inl _ :: ks,h => aft_ret ks h
 | .inr (.inl _) :: ks,h => aft_ret ks h
 | .inr (.inr _) :: ks,h => aft_ret ks h
theorem aft_panic {c : List PanicEntry} : ∀ (ks : List KI),aft P ro Q ks (.panic c) a w = Q (.panic c) a w
 | [] => rfl
 | .inl _ :: ks => aft_panic ks
 | .inr (.inl _) :: ks => aft_panic ks
 | .inr (.inr _) :: ks => aft_panic ks
theorem aft_out : ∀ (ks : List KI),aft P ro Q ks .outgrown a w = Q .outgrown a w
 | [] => rfl
 | .inl _ :: ks => aft_out ks
 | .inr (.inl _) :: ks => aft_out ks
 | .inr (.inr _) :: ks => aft_out ks
theorem rowsIn_fen {row : String} {args : Array Value} {R : Value → World → Prop} (h : Rows P row args w R) : RowsIn (fen ro) 0 P row args w R :=
 fun c cs _ => by
  obtain ⟨v,w',r,s⟩ := h c cs
  have h1 : StepsIn (Machine.fenced P Fence.wide) P (lone (Frame.ofRow P row args .normal) (c :: cs) w) (lone (c.finish v) cs w') := stepsIn_wide.2 s
  exact ⟨v,w',r,h1⟩
theorem callsIn_fen {f : FuncId} {args : Array Value} {R : Ending → World → Prop} (h : Calls P f args w R) : CallsIn (fen ro) 0 P f args w R := by
 have h1 : CallsIn Fence.wide 0 P f args w R := callsIn_wide.2 h
 exact h1
def ndf (o : Oper) : Bool := match o.op with | .defer .. => false | _ => true
theorem ndf_spec {o : Oper} (h : ndf o = true) : ∀ c,o.op ≠ .defer c := by
 intro c hc
 simp [ndf,hc] at h
theorem wpIn_of_wp {o : Oper} {next : Act → World → Prop} (hn : ndf o = true) (h : o.wp P a w next Q) : o.wpIn (fen ro) 0 P a w next Q := by
 refine ⟨fun _ _ => trivial,?_⟩
 rw [Oper.semAt_eq _ _ _ (ndf_spec hn)]
 unfold Oper.wp at h
 generalize (execOp a.eval o).run P w = r at h ⊢
 match r,h with
 | .ok (.value v) w',h => exact h
 | .ok .skip w',h => exact h
 | .ok (.defer d) w',h => exact h
 | .ok (.enter f args) w',h => exact ⟨fun h => (by cases h),callsIn_fen h⟩
 | .ok (.row row args) w',h => exact ⟨fun h => (by cases h),rowsIn_fen h⟩
 | .ok (.round ..) w',h => exact h.elim
 | .halt (.panic v) w',h => exact h
theorem wpAnyIn_of_held {S : World → Prop} {md : Region.Mode} {ops : Array Oper} (hl : ¬ LetsOut Q) (hn : ops.all ndf = true) : ∀ (fuel : Nat) (listed : Array Bool) (a : Act) (w : World),wpAnyH P md ops Q S fuel listed a w → wpAnyIn (fen ro) 0 P md ops Q fuel listed a w
 | 0,_,_,_,h => h
 | fuel + 1,_,a,w,h => ⟨h.1,fun i hi => by
  have h2 := wpOp_mono (fun a' w' h' => wpAnyIn_of_held hl hn fuel _ a' w' h'.2) (h.2 i hi)
  unfold wpOp at h2
  unfold wpOpIn
  split at h2
  ·rename_i he
   rw [he]; exact h2
  ·rename_i o he
   rw [he]
   have ho : ndf o = true := by
    obtain ⟨hlt,hx⟩ := Array.getElem?_eq_some_iff.1 he
    exact Array.all_eq_true.1 hn i hlt |> fun h => hx ▸ h
   dsimp only
   split at h2
   ·rename_i hw
    rw [if_pos hw]
    rcases h2 with h2 | h2
    ·exact wpIn_of_wp ho h2
    ·exact absurd h2.2 hl
   ·rename_i hw
    rw [if_neg hw]
    exact ⟨fun _ _ => trivial,h2⟩⟩
end
structure Cx where
 P : Program
 fn : Func
 post : Ending → World → Prop
 w0 : World
 M : List Nat
 ro : Option Nat
 D : List Deferred
 Q0 : Exit → Act → World → Prop
 po : PanicOk Q0
 lo : ¬ LetsOut Q0
 rt : D = [] → ∀ a w v,a.defers = D → (Go.results fn a.tmps).run P w = .ok v w → post (.returned v) w → Q0 .ret a w ∧ Q0 .normal a w
def noOut (post : Ending → World → Prop) (e : Ending) (w : World) : Prop := e ≠ .outgrown ∧ post e w
def Cx.plain (P : Program) (fn : Func) (post : Ending → World → Prop) (w0 : World) (M : List Nat) : Cx where
 P := P
 fn := fn
 post := post
 w0 := w0
 M := M
 ro := none
 D := []
 Q0 := bodyPost P fn (noOut post)
 po := fun c a w d v h => by cases d <;> exact h
 lo := fun ⟨a,w,h⟩ => h.1 rfl
 rt := fun _ a w v hd hr hp => ⟨⟨hd,v,hr,by simp,hp⟩,⟨hd,v,hr,by simp,hp⟩⟩
abbrev Cx.Q (C : Cx) (ks : List KI) : Exit → Act → World → Prop := aft C.P C.ro C.Q0 ks
def Cfg (C : Cx) (R O : List (Nat × Obj)) (Γ : Env) (ks : List KI) : Prop :=
 ∀ a w,St C.fn.ntmps C.D Γ a → HP C.w0 C.M R O w → C.Q ks .normal a w
def CfgL (C : Cx) (R O : List (Nat × Obj)) (Γ : Env) (ops : Array Oper) (rest : List Oper) (ks : List KI) : Prop :=
 ∀ a w,St C.fn.ntmps C.D Γ a → HP C.w0 C.M R O w → wpListIn (fen C.ro) 0 C.P ops (C.Q ks) rest a w
def CfgA (C : Cx) (R Os O : List (Nat × Obj)) (Γ : Env) (ops : Array Oper) (fuel : Nat) (l : Array Bool) (ks : List KI) : Prop :=
 ∀ a w,St C.fn.ntmps C.D Γ a → HP C.w0 C.M R O w → wpAnyH C.P .any ops (C.Q ks) (HP C.w0 C.M R Os) fuel l a w
theorem panicOk (C : Cx) (ks : List KI) : PanicOk (C.Q ks) := by
 intro c a w d v h
 rw [Cx.Q,aft_panic] at *
 exact C.po c a w d v h
theorem notOut (C : Cx) (ks : List KI) : ¬ LetsOut (C.Q ks) := fun ⟨a,w,h⟩ => C.lo ⟨a,w,by rw [Cx.Q,aft_out] at h; exact h⟩
def evR (C : Cx) (S : World → Prop) (Γ : Env) (ops : Array Oper) (l : List Oper) (ds : List Dir) (kp : Option (List Nat)) : Option (Env × List Prop) :=
 bif Region.noSelect ops then
  match evOps C.P S C.fn.ntmps ops l ds Γ with
  | some r => some (match kp with | some ks => keep ks r.1 | none => r.1,r.2)
  | none => none
 else none
section
variable {C : Cx} {R O : List (Nat × Obj)} {Γ Γ' : Env} {ks ks' : List KI} {nd : (World → Prop) → List Prop} {ops : Array Oper}
theorem evR_some {S : World → Prop} {l : List Oper} {ds : List Dir} {kp : Option (List Nat)} {nd : List Prop} (h : evR C S Γ ops l ds kp = some (Γ',nd)) :
  Region.noSelect ops = true ∧ ∃ Γ2,evOps C.P S C.fn.ntmps ops l ds Γ = some (Γ2,nd) ∧ ∀ n D a,St n D Γ2 a → St n D Γ' a := by
 unfold evR at h
 cases hb : Region.noSelect ops with
 | false => simp [hb] at h
 | true =>
  simp only [hb,cond_true] at h
  split at h
  ·rename_i r hr
   simp only [Option.some.injEq,Prod.mk.injEq] at h
   obtain ⟨h1,h2⟩ := h
   refine ⟨rfl,r.1,by rw [hr,← h2],fun n D a hs => ?_⟩
   rw [← h1]
   cases kp with
   | none => exact hs
   | some kp => exact keep_ok kp hs
  ·cases h
theorem Cfg.nrm (h : Cfg C R O Γ (K.nrm 99 ks)) : Cfg C R O Γ ks := fun a w hs hp => nrm_ok 99 (h a w hs hp)
theorem sel_all (h : Region.noSelect ops = true) {l : List Oper} (hl : ∀ o ∈ l,o ∈ ops.toList) : ∀ o ∈ l,∀ cs b,o.op ≠ .select cs b := by
 intro o ho cs b
 obtain ⟨j,hj⟩ := List.mem_iff_getElem?.1 (hl o ho)
 exact Region.noSelect_spec h j o cs b (by simpa using hj)
theorem Cfg.reg {id : Nat} (hk : K.nrm 99 ks = .inl (.region id ops false) :: ks') (kp : List Nat) (ds : List Dir) (he : ∀ S,evR C S Γ ops ops.toList ds (some kp) = some (Γ',nd S)) (hn : All (nd (HP C.w0 C.M R O)))
  (h : Cfg C R O Γ' ks') : Cfg C R O Γ ks := by
 refine Cfg.nrm ?_
 rw [hk]
 intro a w hs hp
 obtain ⟨hsel,Γ2,he2,hw⟩ := evR_some (he _)
 refine wpIn_region_list ?_
 have := wplIn_pure (ro := C.ro) (Q := C.Q ks') (l2 := []) (w := w) ops.toList ds Γ a (sel_all hsel (fun _ h => h)) hs he2 hn.mem hp (fun a' hs' => h a' w (hw _ _ _ hs') hp)
 simpa using this
theorem Cfg.regD {id : Nat} (hk : K.nrm 99 ks = .inl (.region id ops true) :: ks') (hm : C.P.follows .mixedOrders = true) (kp : List Nat) (ds : List Dir)
  (ht0 : ((takes .any ops (Array.replicate ops.size false) (List.range ops.size)).map fun l => (Region.ready .any ops l).isEmpty) = some true) (ho0 : (opsAt ops (List.range ops.size)).isSome = true)
  (he : ∀ S,evR C S Γ ops ((opsAt ops (List.range ops.size)).getD []) ds (some kp) = some (Γ',nd S)) (hn : All (nd (HP C.w0 C.M R O))) (h : Cfg C R O Γ' ks') (hnd : ops.all ndf = true := by kernel_rfl) : Cfg C R O Γ ks := by
 refine Cfg.nrm ?_
 rw [hk]
 intro a w hs hp
 obtain ⟨hsel,Γ2,he2,hw⟩ := evR_some (he _)
 obtain ⟨l',ht,hr0⟩ := Option.map_eq_some_iff.1 ht0
 have hr : Region.ready .any ops l' = [] := List.isEmpty_iff.1 hr0
 obtain ⟨os,ho⟩ := Option.isSome_iff_exists.1 ho0
 rw [ho,Option.getD_some] at he2
 refine wpIn_region_any hm (wpAnyIn_of_held (S := HP C.w0 C.M R O) (notOut C ks') hnd _ _ _ _ ?_)
 have := any_pure (Q := C.Q ks') (w := { w with drawn := w.drawn + 1 }) (fuel := 0) hsel (panicOk C ks') (List.range ops.size) os ds _ Γ a ht ho hs he2 hn.mem hp.drew
  (fun a' hs' => wpAnyH_done hr (h a' _ (hw _ _ _ hs') hp.drew) 0)
 simpa using this
theorem Cfg.cond {c : Operand} {x y : Code} (hk : K.nrm 99 ks = .inl (.cond c x y) :: ks') {b : Bool} (hc : opd Γ [] c = some (.bool b)) (ht : b = true → Cfg C R O Γ (.inl x :: ks')) (hf : b = false → Cfg C R O Γ (.inl y :: ks')) :
  Cfg C R O Γ ks := by
 refine Cfg.nrm ?_
 rw [hk]
 intro a w hs hp
 have he := opd_ok hs (holds_nil _) hc
 exact wpIn_cond_split he (fun hb => ht hb a w hs hp) (fun hb => hf hb a w hs hp)
def Conv (Γ : Env) : Env → Prop
 | [] => True
 | e :: Γ' => find Γ e.1 = some e.2 ∧ Conv Γ Γ'
theorem Conv.st (h : Conv Γ Γ') {n : Nat} {D : List Deferred} {a : Act} (hs : St n D Γ a) : St n D Γ' a := by
 refine hs.mono fun e he => ?_
 induction Γ' with
 | nil => cases he
 | cons x Γ' ih =>
  rcases List.mem_cons.1 he with rfl | he
  ·exact find_mem h.1
  ·exact ih h.2 he
def Again (C : Cx) (R : List (Nat × Obj)) {ι : Type} (Γi : ι → Env) (Oi : ι → List (Nat × Obj)) (I : ι → Prop) (μ : ι → Nat) (x : ι) (a : Act) (w : World) : Prop :=
 ∃ y,I y ∧ μ y < μ x ∧ St C.fn.ntmps C.D (Γi y) a ∧ HP C.w0 C.M R (Oi y) w
theorem Cfg.loop {c : Code} (hk : K.nrm 99 ks = .inl (.loop c) :: ks') {ι : Type} (Γi : ι → Env) (Oi : ι → List (Nat × Obj)) (I : ι → Prop) (μ : ι → Nat) (x0 : ι) (h0 : I x0) (hΓ : Conv Γ (Γi x0)) (hO : (Oi x0).Sublist O)
  (round : ∀ x,I x → Cfg C R (Oi x) (Γi x) (.inl c :: .inr (.inr (Again C R Γi Oi I μ x)) :: ks')) : Cfg C R O Γ ks := by
 refine Cfg.nrm ?_
 rw [hk]
 intro a w hs hp
 refine wpIn_loop_ghost (fun m a w => ∃ x,μ x = m ∧ I x ∧ St C.fn.ntmps C.D (Γi x) a ∧ HP C.w0 C.M R (Oi x) w) (μ x0) ⟨x0,rfl,h0,hΓ.st hs,hp.sub hO⟩ ?_
 rintro m a w ⟨x,rfl,hI,hs,hp⟩
 refine wpIn_mono (round x hI a w hs hp) ?_
 intro e a' w' hq
 have hq' := congrFun (congrFun (congrFun (aft_inv (P := C.P) (ro := C.ro) (Q := C.Q0) (Again C R Γi Oi I μ x) ks') e) a') w' ▸ hq
 clear hq
 cases e with
 | normal =>
  obtain ⟨y,h1,h2,h3,h4⟩ := hq'
  exact ⟨μ y,h2,y,rfl,h1,h3,h4⟩
 | _ => exact hq'
theorem Cfg.again {ι : Type} {Γi : ι → Env} {Oi : ι → List (Nat × Obj)} {I : ι → Prop} {μ : ι → Nat} {x : ι} (hk : K.nrm 99 ks = .inr (.inr (Again C R Γi Oi I μ x)) :: ks') (y : ι) (hI : I y) (hμ : μ y < μ x)
  (hΓ : Conv Γ (Γi y)) (hO : (Oi y).Sublist O) : Cfg C R O Γ ks := by
 refine Cfg.nrm ?_
 rw [hk]
 intro a w hs hp
 exact ⟨y,hI,hμ,hΓ.st hs,hp.sub hO⟩
def putO (Γ : Env) : Option Nat → Value → Env
 | some d,v => put Γ d [] v
 | none,_ => Γ
theorem putO_ok {n : Nat} {D : List Deferred} {a : Act} {d : Option Nat} {v : Value} (hs : St n D Γ a) (hd : ∀ t,d = some t → t < n) : St n D (putO Γ d v) (a.put d v) := by
 cases d with
 | none => exact hs
 | some t => exact put_ok hs (hd t rfl) rfl (fun _ => rfl) (fun h => absurd (holds_nil _) h)
def Eff (C : Cx) (R O : List (Nat × Obj)) (Γ : Env) (o : Oper) (ι : Type) (V : ι → Value) (O' : ι → List (Nat × Obj)) (F : ι → Prop) : Prop :=
 ∀ a w,St C.fn.ntmps C.D Γ a → HP C.w0 C.M R O w → ∀ (Kt : Act → World → Prop) (Q : Exit → Act → World → Prop),
  (∀ x w',F x → HP C.w0 C.M R (O' x) w' → Kt (a.put o.dst (V x)) w') → o.wp C.P a w Kt Q
def guardV (Γ : Env) (ops : Array Oper) (o : Oper) : Option Value :=
 match o.guard with
 | none => some (.bool true)
 | some (j,_) => match (ops[j]?).bind (·.dst) with
  | some tj => look Γ [] tj
  | none => none
def guardW (o : Oper) : Option Value :=
 match o.guard with
 | none => some (.bool true)
 | some (_,want) => some (.bool want)
theorem goes_wanted {n : Nat} {D : List Deferred} {a : Act} {o : Oper} (hs : St n D Γ a) (h : guardV Γ ops o = guardW o) : Region.wanted o (yielded ops a.tmps) = true := by
 unfold guardV guardW at h
 split at h
 ·rename_i hg; simp [Region.wanted,hg]
 ·rename_i j want hg
  split at h
  ·rename_i tj hj
   exact (wanted_iff hg hj).2 (look_ok hs (holds_nil _) h)
  ·cases h
def DstOk (n : Nat) (o : Oper) : Bool := match o.dst with | some t => Nat.blt t n | none => true
theorem DstOk.lt {n : Nat} {o : Oper} (h : DstOk n o = true) : ∀ t,o.dst = some t → t < n := by
 intro t ht
 simp only [DstOk,ht] at h
 exact Nat.lt_of_succ_le (Nat.le_of_ble_eq_true h)
theorem Cfg.begL {id : Nat} (hk : K.nrm 99 ks = .inl (.region id ops false) :: ks') (h : CfgL C R O Γ ops ops.toList ks') : Cfg C R O Γ ks := by
 refine Cfg.nrm ?_
 rw [hk]
 intro a w hs hp
 exact wpIn_region_list (h a w hs hp)
theorem CfgL.pure {rest : List Oper} (k : Nat) (ds : List Dir) (kp : Option (List Nat)) (hm : (rest.all fun o => match o.op with | .select .. => false | _ => true) = true)
  (he : ∀ S,evR C S Γ ops (rest.take k) ds kp = some (Γ',nd S)) (hn : All (nd (HP C.w0 C.M R O))) (h : CfgL C R O Γ' ops (rest.drop k) ks) : CfgL C R O Γ ops rest ks := by
 intro a w hs hp
 obtain ⟨hsel,Γ2,he2,hw⟩ := evR_some (he _)
 have := wplIn_pure (ro := C.ro) (Q := C.Q ks) (l2 := rest.drop k) (w := w) (rest.take k) ds Γ a (fun o ho cs b hh => by
  have := List.all_eq_true.1 hm o (List.mem_of_mem_take ho)
  simp [hh] at this) hs he2 hn.mem hp (fun a' hs' => h a' w (hw _ _ _ hs') hp)
 rwa [List.take_append_drop] at this
theorem CfgL.eff {rest rest' : List Oper} {o : Oper} (hr : rest = o :: rest') (hd : DstOk C.fn.ntmps o = true) (hg : guardV Γ ops o = guardW o) {ι : Type} {V : ι → Value} {O' : ι → List (Nat × Obj)} {F : ι → Prop} (he : Eff C R O Γ o ι V O' F)
  (h : ∀ x,F x → CfgL C R (O' x) (putO Γ o.dst (V x)) ops rest' ks) (hnd : ndf o = true := by kernel_rfl) : CfgL C R O Γ ops rest ks := by
 subst hr
 intro a w hs hp
 unfold wpListIn
 rw [if_pos (goes_wanted hs hg)]
 exact wpIn_of_wp hnd (he a w hs hp _ _ (fun x w' hx hp' => h x hx _ w' (putO_ok hs (DstOk.lt hd)) hp'))
theorem CfgL.done {rest : List Oper} (hr : rest = []) (h : Cfg C R O Γ ks) : CfgL C R O Γ ops rest ks := by
 subst hr
 intro a w hs hp
 exact h a w hs hp
theorem Cfg.begA {id : Nat} (hk : K.nrm 99 ks = .inl (.region id ops true) :: ks') (hm : C.P.follows .mixedOrders = true) (Os : List (Nat × Obj)) (h : CfgA C R Os O Γ ops ops.size (Array.replicate ops.size false) ks') (hnd : ops.all ndf = true := by kernel_rfl) : Cfg C R O Γ ks := by
 refine Cfg.nrm ?_
 rw [hk]
 intro a w hs hp
 exact wpIn_region_any hm (wpAnyIn_of_held (notOut C ks') hnd _ _ _ _ (h a _ hs hp.drew))
theorem CfgA.pure {Os : List (Nat × Obj)} {fuel : Nat} {l l' : Array Bool} (is : List Nat) (ds : List Dir) (kp : Option (List Nat)) (ht : takes .any ops l is = some l') (ho0 : (opsAt ops is).isSome = true)
  (hO : Os.Sublist O) (fuel' : Nat) (hf : fuel = fuel' + is.length)
  (he : ∀ S,evR C S Γ ops ((opsAt ops is).getD []) ds kp = some (Γ',nd S)) (hn : All (nd (HP C.w0 C.M R Os))) (h : CfgA C R Os O Γ' ops fuel' l' ks) : CfgA C R Os O Γ ops fuel l ks := by
 intro a w hs hp
 obtain ⟨hsel,Γ2,he2,hw⟩ := evR_some (he _)
 obtain ⟨os,ho⟩ := Option.isSome_iff_exists.1 ho0
 rw [ho,Option.getD_some] at he2
 subst hf
 exact any_pure (Q := C.Q ks) (w := w) hsel (panicOk C ks) is os ds l Γ a ht ho hs he2 hn.mem (hp.sub hO) (fun a' hs' => h a' w (hw _ _ _ hs') hp)
theorem CfgA.eff {Os : List (Nat × Obj)} {fuel fuel' : Nat} {l : Array Bool} (i : Nat) {o : Oper} (ho : ops[i]? = some o) (hr : Region.ready .any ops l = [i]) (hf : fuel = fuel' + 1) (hd : DstOk C.fn.ntmps o = true) (hg : guardV Γ ops o = guardW o)
  {ι : Type} {V : ι → Value} {O' : ι → List (Nat × Obj)} {F : ι → Prop} (he : Eff C R O Γ o ι V O' F) (hO : ∀ x,F x → Os.Sublist (O' x))
  (h : ∀ x,F x → CfgA C R Os (O' x) (putO Γ o.dst (V x)) ops fuel' (l.setIfInBounds i true) ks) : CfgA C R Os O Γ ops fuel l ks := by
 subst hf
 intro a w hs hp
 refine wpAnyH_all hr (by simp) ?_
 intro j hj
 simp only [List.mem_cons,List.not_mem_nil,or_false] at hj
 subst hj
 unfold wpOp
 simp only [ho,goes_wanted hs hg,if_true]
 exact .inl (he a w hs hp _ _ (fun x w' hx hp' => ⟨hp'.sub (hO x hx),h x hx _ w' (putO_ok hs (DstOk.lt hd)) hp'⟩))
theorem CfgA.done {Os : List (Nat × Obj)} {fuel : Nat} {l : Array Bool} (hr : Region.ready .any ops l = []) (h : Cfg C R O Γ ks) : CfgA C R Os O Γ ops fuel l ks := by
 intro a w hs hp
 exact wpAnyH_done hr (h a w hs hp) fuel
def Res (C : Cx) (R O : List (Nat × Obj)) (Γ : Env) : List ResultVar → List Value → Prop
 | [],[] => True
 | .tmp t :: rs,v :: vs => look Γ [] t = some v ∧ Res C R O Γ rs vs
 | .cell p ty :: rs,v :: vs => (∃ x,look Γ [] p = some (.pointer (some x)) ∧ ∀ w,HP C.w0 C.M R O w → (loadVar ty x).run C.P w = .ok v w) ∧ Res C R O Γ rs vs
 | _,_ => False
def resF (tm : Array Value) : ResultVar → Sem Value
 | .tmp t => pure (tm.getD t undef)
 | .cell x t => do loadVar t (← asAddr (tm.getD x undef))
theorem results_eq (fn : Func) (tm : Array Value) : Go.results fn tm = (do let vs ← fn.results.mapM (resF tm); pure (if h : vs.size = 1 then vs[0] else .tuple vs)) := by
 unfold Go.results
 congr 1
theorem Res.run {a : Act} {w : World} {n : Nat} {D : List Deferred} (hs : St n D Γ a) (hp : HP C.w0 C.M R O w) : ∀ {rs : List ResultVar} {vs : List Value},Res C R O Γ rs vs →
  (rs.mapM (resF a.tmps)).run C.P w = .ok vs w
 | [],[],_ => by simp
 | .tmp t :: rs,v :: vs,h => by
  have h1 := look_ok hs (holds_nil _) h.1
  have ih := Res.run hs hp h.2
  simp only [List.mapM_cons,resF,Sem.run_bind,Sem.run_pure,Result.andThen_ok,h1]
  rw [ih]; rfl
 | .cell p ty :: rs,v :: vs,h => by
  obtain ⟨⟨x,hx,hv⟩,h2⟩ := h
  have h1 := look_ok hs (holds_nil _) hx
  have ih := Res.run hs hp h2
  have hA : (asAddr (.pointer (some x))).run C.P w = .ok x w := rfl
  simp only [List.mapM_cons,resF,Sem.run_bind,Sem.run_pure,Result.andThen_ok,h1,hA,hv w hp]
  rw [ih]; rfl
 | [],_ :: _,h => h.elim
 | .tmp _ :: _,[],h => h.elim
 | .cell .. :: _,[],h => h.elim
def resOf : List Value → Value
 | [v] => v
 | vs => .tuple vs.toArray
theorem Res.out {a : Act} {w : World} {n : Nat} {D : List Deferred} (hs : St n D Γ a) (hp : HP C.w0 C.M R O w) {rs : List ResultVar} {vs : List Value} (hr : C.fn.results = rs.toArray) (h : Res C R O Γ rs vs) :
  (Go.results C.fn a.tmps).run C.P w = .ok (resOf vs) w := by
 have := Res.run hs hp h
 rw [results_eq,hr,List.mapM_toArray]
 simp only [Sem.run_bind,map_eq_pure_bind,this,Result.andThen_ok,Sem.run_pure]
 match vs with
 | [] => rfl
 | [v] => rfl
 | _ :: _ :: _ => simp [resOf]
theorem Cfg.ret (hk : K.nrm 99 ks = .inl .ret :: ks') {rs : List ResultVar} (hr : C.fn.results = rs.toArray) (vs : List Value) (hv : Res C R O Γ rs vs) (hp : ∀ w,HP C.w0 C.M R O w → C.post (.returned (resOf vs)) w) (hD : C.D = [] := by rfl) : Cfg C R O Γ ks := by
 refine Cfg.nrm ?_
 rw [hk]
 intro a w hs h
 exact wpIn_ret (aft_ret ks' (C.rt hD a w _ hs.dfr (hv.out hs h hr) (hp w h)).1)
theorem Cfg.fin (hk : K.nrm 99 ks = []) {rs : List ResultVar} (hr : C.fn.results = rs.toArray) (vs : List Value) (hv : Res C R O Γ rs vs) (hp : ∀ w,HP C.w0 C.M R O w → C.post (.returned (resOf vs)) w) (hD : C.D = [] := by rfl) : Cfg C R O Γ ks := by
 refine Cfg.nrm ?_
 rw [hk]
 intro a w hs h
 exact (C.rt hD a w _ hs.dfr (hv.out hs h hr) (hp w h)).2
def argsΓ : Nat → List Value → Env
 | _,[] => []
 | i,v :: vs => (i,[],v) :: argsΓ (i + 1) vs
theorem argsΓ_mem {e : Nat × Ch × Value} : ∀ {i : Nat} {vs : List Value},e ∈ argsΓ i vs → e.2.1 = [] ∧ i ≤ e.1 ∧ vs[e.1 - i]? = some e.2.2
 | _,[],h => by cases h
 | i,v :: vs,h => by
  rcases List.mem_cons.1 h with rfl | h
  ·simp
  ·obtain ⟨h1,h2,h3⟩ := argsΓ_mem h
   refine ⟨h1,by omega,?_⟩
   rw [show e.1 - i = (e.1 - (i + 1)) + 1 by omega,List.getElem?_cons_succ]; exact h3
theorem enter {P : Program} {f : FuncId} {fn : Func} {c : Code} {vs : List Value} {w : World} {post : Ending → World → Prop} (M : List Nat) (R O : List (Nat × Obj)) (hf : P.funcs[f]? = some fn) (hb : fn.body = some c)
  (hn0 : Nat.ble vs.length fn.ntmps = true) (hp : HP w M R O w) (h : Cfg (Cx.plain P fn post w M) R O (argsΓ 0 vs) [.inl c]) : Calls P f vs.toArray w post := by
 have hn : vs.length ≤ fn.ntmps := Nat.le_of_ble_eq_true hn0
 refine (calls_of_wp (R := noOut post) hf hb ?_).mono (fun e w' he => he.2)
 refine (wpIn_wide (n := 0)).1 ?_
 refine h _ w ⟨by show _ = fn.ntmps; simp; omega,rfl,?_⟩ hp
 intro e he
 obtain ⟨h1,_,h3⟩ := argsΓ_mem he
 rw [h1]
 refine ⟨fun _ => ?_,fun hh => absurd (holds_nil _) hh⟩
 have hlt : e.1 < vs.length := by
  rcases Nat.lt_or_ge e.1 vs.length with hh | hh
  ·exact hh
  ·rw [Nat.sub_zero,List.getElem?_eq_none hh] at h3; cases h3
 rw [Nat.sub_zero] at h3
 rw [Array.getD_eq_getD_getElem?,Array.getElem?_append_left (by simpa using hlt)]
 simp [h3]
theorem HP.start (w : World) : HP w [] [] [] w := ⟨Ext.refl _ _,(fun _ h => by cases h),(fun _ h => by cases h),(fun _ h => by cases h),by simp,(fun _ h => by cases h)⟩
end
end K
end Go.Proofs.YtohjpggjgomgoaaGreatDoor
namespace Go.Proofs.YtohjpggjgomgoaaGreatDoor
namespace K
section
variable {C : Cx} {R O : List (Nat × Obj)} {Γ : Env} {o : Oper}
theorem Eff.of_run {ι : Type} {V : ι → Value} {O' : ι → List (Nat × Obj)} {F : ι → Prop}
  (h : ∀ a w,St C.fn.ntmps C.D Γ a → HP C.w0 C.M R O w → ∃ x w',F x ∧ (execOp a.eval o).run C.P w = .ok (.value (V x)) w' ∧ HP C.w0 C.M R (O' x) w') : Eff C R O Γ o ι V O' F := by
 intro a w hs hp Kt Q hK
 obtain ⟨x,w',hx,hr,hp'⟩ := h a w hs hp
 unfold Oper.wp
 rw [hr]
 exact hK x w' hx hp'
theorem Eff.of_skip {ι : Type} {O' : ι → List (Nat × Obj)} {F : ι → Prop}
  (h : ∀ a w,St C.fn.ntmps C.D Γ a → HP C.w0 C.M R O w → ∃ x w',F x ∧ (execOp a.eval o).run C.P w = .ok .skip w' ∧ HP C.w0 C.M R (O' x) w') : Eff C R O Γ o ι (fun _ => undef) O' F := by
 intro a w hs hp Kt Q hK
 obtain ⟨x,w',hx,hr,hp'⟩ := h a w hs hp
 unfold Oper.wp
 rw [hr]
 exact hK x w' hx hp'
def opds (Γ : Env) : List Operand → Option (List Value)
 | [] => some []
 | x :: l => match opd Γ [] x,opds Γ l with
  | some v,some vs => some (v :: vs)
  | _,_ => none
theorem opds_ok {n : Nat} {D : List Deferred} {a : Act} (hs : St n D Γ a) : ∀ {l : List Operand} {vs : List Value},opds Γ l = some vs → l.map a.eval = vs
 | [],vs,h => by simp only [opds,Option.some.injEq] at h; rw [← h]; rfl
 | x :: l,vs,h => by
  unfold opds at h
  split at h
  ·rename_i v us h1 h2
   simp only [Option.some.injEq] at h
   rw [← h,List.map_cons,opd_ok hs (holds_nil _) h1,opds_ok hs h2]
  ·cases h
theorem run_callFunc {P : Program} {f : FuncId} {fn : Func} {c : Code} {args : Array Value} {w : World} (hf : P.funcs[f]? = some fn) (hnm : (fn.name == "runtime.NumGoroutine") = false) (hb : fn.body = some c) :
  (callFunc f args).run P w = .ok (.enter f args) w := by
 have h1 : ¬ fn.name = "runtime.NumGoroutine" := by simpa using hnm
 simp [callFunc,program,Sem.run,hf,h1,hb]
theorem Eff.call {f : FuncId} {fn : Func} {c : Code} {xs : List Operand} {tys : Array TypeId} (ho : o.op = .call ⟨.value (.func f),xs.toArray,tys⟩) (hf : C.P.funcs[f]? = some fn) (hnm : (fn.name == "runtime.NumGoroutine") = false) (hb : fn.body = some c)
  {vs : List Value} (hx : opds Γ xs = some vs) {ι : Type} {V : ι → Value} {O' : ι → List (Nat × Obj)} {F : ι → Prop}
  (h : ∀ w,HP C.w0 C.M R O w → Calls C.P f vs.toArray w fun e w' => ∃ x,F x ∧ e = .returned (V x) ∧ HP C.w0 C.M R (O' x) w') : Eff C R O Γ o ι V O' F := by
 intro a w hs hp Kt Q hK
 have hargs := opds_ok hs hx
 have hrun : (execOp a.eval o).run C.P w = .ok (.enter f vs.toArray) w := by
  simp [execOp,ho,resolve,Deferred.ofValue,Act.eval,invoke,hargs,run_callFunc hf hnm hb]
 unfold Oper.wp
 rw [hrun]
 refine (h w hp).mono ?_
 rintro e w' ⟨x,hx,rfl,hp'⟩
 exact hK x w' hx hp'
theorem Eff.alloc {t : TypeId} {z : Value} (ho : o.op = .alloc t) (hz0 : (C.P.info? t).bind (·.zero) = some z) :
  Eff C R O Γ o Nat (fun b => .pointer (some ⟨b,0,none⟩)) (fun b => (b,.cells z.cells t (0,0)) :: O) (fun b => C.w0.heap.size ≤ b ∧ b ∉ O.map (·.1)) := by
 refine Eff.of_run fun a w hs hp => ⟨w.heap.size,w.alloc (.cells z.cells t (0,0)),⟨hp.ext.size,hp.fresh (Nat.le_refl _)⟩,?_,hp.alloc _⟩
 obtain ⟨inf,hi,hz⟩ := Option.bind_eq_some_iff.1 hz0
 simp [execOp,ho,Instr.alloc,zeroValue,typeInfo,program,Sem.run,hi,hz,newVar,newRow,newObj]
theorem Eff.box {t : TypeId} {x : Operand} {v : Value} (ho : o.op = .box t x) (hx : opd Γ [] x = some v) :
  Eff C R O Γ o Nat (fun b => .pointer (some ⟨b,0,none⟩)) (fun b => (b,.cells v.cells t (0,0)) :: O) (fun b => C.w0.heap.size ≤ b ∧ b ∉ O.map (·.1)) := by
 refine Eff.of_run fun a w hs hp => ⟨w.heap.size,w.alloc (.cells v.cells t (0,0)),⟨hp.ext.size,hp.fresh (Nat.le_refl _)⟩,?_,hp.alloc _⟩
 simp [execOp,ho,Instr.box,opd_ok hs (holds_nil _) hx,newVar,newRow,newObj,Sem.run]
def one : Value → Bool
 | .agg _ | .tuple _ => false
 | _ => true
theorem Eff.store1 {t : TypeId} {x y : Operand} {b off : Nat} {v : Value} (ho : o.op = .store t x y) (hx : opd Γ [] x = some (.pointer (some ⟨b,off,none⟩))) (hy : opd Γ [] y = some v) (h1 : one v = true)
  (hsz0 : (C.P.info? t).map (·.size) = some 1) (i : Nat) {cs : Array Value} {e : TypeId} (hO : O[i]? = some (b,.cells cs e (0,0))) (hoff : off < cs.size) :
  Eff C R O Γ o Unit (fun _ => undef) (fun _ => O.set i (b,.cells (cs.setIfInBounds off v) e (0,0))) (fun _ => True) := by
 refine Eff.of_skip fun a w hs hp => ⟨(),w.setCell ⟨b,off,none⟩ v,trivial,?_,hp.setCell i v hO⟩
 obtain ⟨inf,hi,hsz⟩ := Option.map_eq_some_iff.1 hsz0
 have hb := hp.own _ (List.mem_of_getElem? hO)
 have hc : w.cell? ⟨b,off,none⟩ = some (cs[off]) := by rw [cell_cells hb]; exact Array.getElem?_eq_getElem hoff
 have hfz : w.frozen? ⟨b,off,none⟩ = false := by simp [World.frozen?,hb]
 have hst : (store ⟨b,off,none⟩ v).run C.P w = .ok () (w.setCell ⟨b,off,none⟩ v) := by
  unfold store
  cases v <;> simp [K.one] at h1 <;> simp [Sem.run,hc,hfz]
 have hv : v.cells = #[v] := by cases v <;> first | rfl | simp [K.one] at h1
 simp [execOp,ho,opd_ok hs (holds_nil _) hx,opd_ok hs (holds_nil _) hy,Instr.storeAt,Instr.sureAddr,storeVar,run_sizeOf' hi,hsz,hv,storeCells,add_none,hst]
theorem Eff.buildSlice {t e : TypeId} {len : Nat} {xs : List (Nat × Operand)} {parts : Array (Nat × Value)} {cells : Array Value} (ho : o.op = .buildSlice t len xs.toArray) (hx : (xs.map fun p => (opd Γ [] p.2).map fun v => (p.1,v)) = parts.toList.map some)
  (hrun : ∀ w,(Instr.buildSlice t len parts).run C.P w = .ok (.slice (some ⟨w.heap.size,0,none⟩) len len) (w.alloc (.cells cells e (0,0)))) :
  Eff C R O Γ o Nat (fun b => .slice (some ⟨b,0,none⟩) len len) (fun b => (b,.cells cells e (0,0)) :: O) (fun b => C.w0.heap.size ≤ b ∧ b ∉ O.map (·.1)) := by
 refine Eff.of_run fun a w hs hp => ⟨w.heap.size,w.alloc (.cells cells e (0,0)),⟨hp.ext.size,hp.fresh (Nat.le_refl _)⟩,?_,hp.alloc _⟩
 have hm : ∀ (xs : List (Nat × Operand)) (ps : List (Nat × Value)),(xs.map fun p => (opd Γ [] p.2).map fun v => (p.1,v)) = ps.map some → xs.map (fun p => (p.1,a.eval p.2)) = ps := by
  intro xs
  induction xs with
  | nil => intro ps h; cases ps with
   | nil => rfl
   | cons _ _ => simp at h
  | cons x xs ih =>
   intro ps h
   cases ps with
   | nil => simp at h
   | cons q ps =>
    simp only [List.map_cons,List.cons.injEq] at h
    obtain ⟨h1,h2⟩ := h
    obtain ⟨v,hv,hq⟩ := Option.map_eq_some_iff.1 h1
    rw [List.map_cons,ih ps h2,opd_ok hs (holds_nil _) hv,hq]
 have := hm xs parts.toList hx
 have h2 : (xs.toArray.map fun x => match x with | (i,x) => (i,a.eval x)) = parts := by
  apply Array.ext'
  rw [← this]; simp
 simp only [execOp,ho]
 rw [show (xs.toArray.map fun x => match x with | (i,x) => (i,a.eval x)) = parts from h2]
 exact run_v (hrun w)
theorem Eff.quiet {raw : Bool} {orc : Option Value} {v : Value} {nd : (World → Prop) → List Prop} (he : ∀ S,evOp C.P S Γ [] o raw orc = some (v,nd S)) (hn : All (nd (HP C.w0 C.M R O))) (hsel : (match o.op with | .select .. => false | _ => true) = true) :
  Eff C R O Γ o Unit (fun _ => v) (fun _ => O) (fun _ => True) := by
 refine Eff.of_run fun a w hs hp => ⟨(),w,trivial,?_,hp⟩
 exact evOp_ok hs (holds_nil _) (he _) hn.mem (fun cs b hh => by simp [hh] at hsel) w hp
end
end K
end Go.Proofs.YtohjpggjgomgoaaGreatDoor
namespace Go.Proofs.YtohjpggjgomgoaaGreatDoor
namespace K
theorem notT {b : Bool} (h : (!b) = true) : b = false := by cases b <;> simp_all
theorem notF {b : Bool} (h : (!b) = false) : b = true := by cases b <;> simp_all
theorem andT1 {a b : Bool} (h : (a && b) = true) : a = true := by cases a <;> simp_all
theorem andT2 {a b : Bool} (h : (a && b) = true) : b = true := by cases a <;> simp_all
theorem andF {a b : Bool} (h : (a && b) = false) : a = false ∨ b = false := by cases a <;> simp_all
theorem orT {a b : Bool} (h : (a || b) = true) : a = true ∨ b = true := by cases a <;> simp_all
theorem orF1 {a b : Bool} (h : (a || b) = false) : a = false := by cases a <;> simp_all
theorem orF2 {a b : Bool} (h : (a || b) = false) : b = false := by cases a <;> simp_all
theorem boolV {a b : Bool} (h : (Value.bool a) = .bool b) : a = b := Value.bool.inj h
section
variable {C : Cx} {R O : List (Nat × Obj)} {Γ Γ' : Env} {ks ks' : List KI} {ops : Array Oper}
theorem Conv.mk (h : (Γ'.map fun e => find Γ e.1) = Γ'.map fun e => some e.2) : Conv Γ Γ' := by
 induction Γ' with
 | nil => trivial
 | cons e Γ' ih =>
  simp only [List.map_cons,List.cons.injEq] at h
  exact ⟨h.1,ih h.2⟩
theorem Conv.cfg (h : Conv Γ Γ') (hc : Cfg C R O Γ' ks) : Cfg C R O Γ ks := fun a w hs hp => hc a w (h.st hs) hp
theorem St.known {n : Nat} {D : List Deferred} {a : Act} (hs : St n D Γ a) (t : Nat) {b : Bool} (hf : find Γ t = some ([],.bool b)) (c : Bool) (hb : b = c) : St n D (put Γ t [] (.bool c)) a := by
 refine ⟨hs.size,hs.dfr,fun e he => ?_⟩
 rcases List.mem_cons.1 he with rfl | he
 ·refine ⟨fun _ => ?_,fun h => absurd (holds_nil _) h⟩
  have := (hs.sl _ (find_mem hf)).1 (holds_nil _)
  rw [← hb]; exact this
 ·exact hs.sl e (List.mem_filter.1 he).1
theorem CfgL.known {rest : List Oper} (t : Nat) {b : Bool} (hf : find Γ t = some ([],.bool b)) (c : Bool) (hb : b = c) (h : CfgL C R O (put Γ t [] (.bool c)) ops rest ks) : CfgL C R O Γ ops rest ks := fun a w hs hp => h a w (hs.known t hf c hb) hp
theorem CfgA.known {Os : List (Nat × Obj)} {fuel : Nat} {l : Array Bool} (t : Nat) {b : Bool} (hf : find Γ t = some ([],.bool b)) (c : Bool) (hb : b = c) (h : CfgA C R Os O (put Γ t [] (.bool c)) ops fuel l ks) : CfgA C R Os O Γ ops fuel l ks := fun a w hs hp => h a w (hs.known t hf c hb) hp
theorem Cfg.setO {O' : List (Nat × Obj)} (h : O = O') (hc : Cfg C R O' Γ ks) : Cfg C R O Γ ks := by rw [h]; exact hc
theorem CfgL.setO {O' : List (Nat × Obj)} {rest : List Oper} (h : O = O') (hc : CfgL C R O' Γ ops rest ks) : CfgL C R O Γ ops rest ks := by rw [h]; exact hc
theorem CfgA.setO {O' Os : List (Nat × Obj)} {fuel : Nat} {l : Array Bool} (h : O = O') (hc : CfgA C R Os O' Γ ops fuel l ks) : CfgA C R Os O Γ ops fuel l ks := by rw [h]; exact hc
theorem Cfg.setG (h : Γ = Γ') (hc : Cfg C R O Γ' ks) : Cfg C R O Γ ks := by rw [h]; exact hc
def CfgI (C : Cx) (R Os O : List (Nat × Obj)) (Γ : Env) (ops : Array Oper) (fuel : Nat) (l : Array Bool) (i : Nat) (ks : List KI) : Prop :=
 ∀ a w,St C.fn.ntmps C.D Γ a → HP C.w0 C.M R O w → wpOp C.P ops (C.Q ks) i (fun a' w' => HP C.w0 C.M R Os w' ∧ wpAnyH C.P .any ops (C.Q ks) (HP C.w0 C.M R Os) fuel (l.setIfInBounds i true) a' w') a w
theorem CfgA.two {Os : List (Nat × Obj)} {fuel fuel' : Nat} {l : Array Bool} (i j : Nat) (hr : Region.ready .any ops l = [i,j]) (hf : fuel = fuel' + 1) (h1 : CfgI C R Os O Γ ops fuel' l i ks) (h2 : CfgI C R Os O Γ ops fuel' l j ks) : CfgA C R Os O Γ ops fuel l ks := by
 subst hf
 intro a w hs hp
 refine wpAnyH_all hr (by simp) ?_
 intro k hk
 simp only [List.mem_cons,List.not_mem_nil,or_false] at hk
 rcases hk with rfl | rfl
 ·exact h1 a w hs hp
 ·exact h2 a w hs hp
theorem CfgI.eff {Os : List (Nat × Obj)} {fuel : Nat} {l : Array Bool} {i : Nat} {o : Oper} (ho : ops[i]? = some o) (hd : DstOk C.fn.ntmps o = true) (hg : guardV Γ ops o = guardW o)
  {ι : Type} {V : ι → Value} {O' : ι → List (Nat × Obj)} {F : ι → Prop} (he : Eff C R O Γ o ι V O' F) (hO : ∀ x,F x → Os.Sublist (O' x))
  (h : ∀ x,F x → CfgA C R Os (O' x) (putO Γ o.dst (V x)) ops fuel (l.setIfInBounds i true) ks) : CfgI C R Os O Γ ops fuel l i ks := by
 intro a w hs hp
 unfold wpOp
 simp only [ho,goes_wanted hs hg,if_true]
 exact .inl (he a w hs hp _ _ (fun x w' hx hp' => ⟨hp'.sub (hO x hx),h x hx _ w' (putO_ok hs (DstOk.lt hd)) hp'⟩))
theorem Cfg.condT {c : Operand} {x y : Code} (hk : K.nrm 99 ks = .inl (.cond c x y) :: ks') {b : Bool} (hc : opd Γ [] c = some (.bool b)) (hb : b = true) (h : Cfg C R O Γ (.inl x :: ks')) : Cfg C R O Γ ks :=
 Cfg.cond hk hc (fun _ => h) (fun hf => by rw [hb] at hf; cases hf)
theorem Cfg.condF {c : Operand} {x y : Code} (hk : K.nrm 99 ks = .inl (.cond c x y) :: ks') {b : Bool} (hc : opd Γ [] c = some (.bool b)) (hb : b = false) (h : Cfg C R O Γ (.inl y :: ks')) : Cfg C R O Γ ks :=
 Cfg.cond hk hc (fun hf => by rw [hb] at hf; cases hf) (fun _ => h)
theorem HP.mut {w0 w w' : World} {M : List Nat} (h : HP w0 M R O w) (i : Nat) {b : Nat} {o o' : Obj} (hi : O[i]? = some (b,o)) (hx : Ext [b] w w') (hb : w'.heap[b]? = some o') : HP w0 M R (O.set i (b,o')) w' := by
 have h1 : HP w0 M R (O.eraseIdx i) w' := h.call hx _ (List.eraseIdx_sublist ..) (by
  intro k hk
  simp only [List.mem_cons,List.not_mem_nil,or_false] at hk
  subst hk
  exact List.mem_map.2 ⟨_,List.mem_of_getElem? hi,rfl⟩) (by
  intro e he hm
  simp only [List.mem_cons,List.not_mem_nil,or_false] at hm
  obtain ⟨j,hj⟩ := List.mem_iff_getElem?.1 he
  rw [List.getElem?_eraseIdx] at hj
  split at hj
  ·rename_i hlt
   have := nodup_inj h.dist (i := j) (j := i) (x := b) (by simp [hj,hm]) (by simp [hi])
   omega
  ·rename_i hlt
   have := nodup_inj h.dist (i := j + 1) (j := i) (x := b) (by simp [hj,hm]) (by simp [hi])
   omega)
 have hlt : i < O.length := (List.getElem?_eq_some_iff.1 hi).1
 have hmap : (O.set i (b,o')).map (·.1) = O.map (·.1) := by
  apply List.ext_getElem?
  intro j
  rw [List.map_set,List.getElem?_set]
  by_cases hij : i = j
  ·subst hij; simp [hlt]; have := (List.getElem?_eq_some_iff.1 hi).2; rw [this]
  ·rw [if_neg hij]
 have hmem : ∀ e ∈ O.set i (b,o'),e = (b,o') ∨ e ∈ O.eraseIdx i := by
  intro e he
  obtain ⟨j,hj⟩ := List.mem_iff_getElem?.1 he
  rw [List.getElem?_set] at hj
  by_cases hij : i = j
  ·subst hij; simp [hlt] at hj; exact .inl hj.symm
  ·rw [if_neg hij] at hj
   refine .inr (List.mem_iff_getElem?.2 ?_)
   by_cases hlt' : j < i
   ·exact ⟨j,by rw [List.getElem?_eraseIdx,if_pos hlt']; exact hj⟩
   ·exact ⟨j - 1,by rw [List.getElem?_eraseIdx,if_neg om,show j - 1 + 1 = j by omega]; exact hj⟩
 refine ⟨h1.ext,h1.ro,h1.rod,fun e he => ?_,by rw [hmap]; exact h.dist,fun e he => ?_⟩
 ·rcases hmem e he with rfl | he
  ·exact hb
  ·exact h1.own e he
 ·rcases hmem e he with rfl | he
  ·exact h.mine (b,o) (List.mem_of_getElem? hi)
  ·exact h1.mine e he
theorem Eff.callA {o : Oper} {f : FuncId} {fn : Func} {c : Code} {xs : List Operand} {tys : Array TypeId} {vs : List Value} (v : Value) (ho : o.op = .call ⟨.value (.func f),xs.toArray,tys⟩) (hf : C.P.funcs[f]? = some fn)
  (hnm : (fn.name == "runtime.NumGoroutine") = false) (hb : fn.body = some c) (hx : opds Γ xs = some vs)
  (h : ∀ w,HP C.w0 C.M R O w → Calls C.P f vs.toArray w fun e w' => e = .returned v ∧ Ext [] w w') : Eff C R O Γ o Unit (fun _ => v) (fun _ => O) (fun _ => True) :=
 Eff.call ho hf hnm hb hx fun w hp => (h w hp).mono fun _ _ hh => ⟨(),trivial,hh.1,hp.calm hh.2⟩
theorem Eff.callM {o : Oper} {f : FuncId} {fn : Func} {c : Code} {xs : List Operand} {tys : Array TypeId} {vs : List Value} (v : Value) (i : Nat) {b : Nat} {ob : Obj} (ob' : Obj) (ho : o.op = .call ⟨.value (.func f),xs.toArray,tys⟩) (hf : C.P.funcs[f]? = some fn)
  (hnm : (fn.name == "runtime.NumGoroutine") = false) (hb : fn.body = some c) (hx : opds Γ xs = some vs) (hi : O[i]? = some (b,ob))
  (h : ∀ w,HP C.w0 C.M R O w → Calls C.P f vs.toArray w fun e w' => e = .returned v ∧ Ext [b] w w' ∧ w'.heap[b]? = some ob') : Eff C R O Γ o Unit (fun _ => v) (fun _ => O.set i (b,ob')) (fun _ => True) :=
 Eff.call ho hf hnm hb hx fun w hp => (h w hp).mono fun _ _ hh => ⟨(),trivial,hh.1,hp.mut i hi hh.2.1 hh.2.2⟩
theorem Eff.callN {o : Oper} {f : FuncId} {fn : Func} {c : Code} {xs : List Operand} {tys : Array TypeId} {vs : List Value} {ι : Type} (V : ι → Value) (B : ι → Nat) (ob : ι → Obj) (F : ι → Prop) (ho : o.op = .call ⟨.value (.func f),xs.toArray,tys⟩) (hf : C.P.funcs[f]? = some fn)
  (hnm : (fn.name == "runtime.NumGoroutine") = false) (hb : fn.body = some c) (hx : opds Γ xs = some vs)
  (h : ∀ w,HP C.w0 C.M R O w → Calls C.P f vs.toArray w fun e w' => ∃ x,F x ∧ e = .returned (V x) ∧ w.heap.size ≤ B x ∧ w'.heap[B x]? = some (ob x) ∧ Ext [] w w') :
  Eff C R O Γ o ι V (fun x => (B x,ob x) :: O) (fun x => F x ∧ C.w0.heap.size ≤ B x ∧ B x ∉ O.map (·.1)) :=
 Eff.call ho hf hnm hb hx fun w hp => (h w hp).mono fun _ _ hh => by
  obtain ⟨x,hF,he,hs,hg,hE⟩ := hh
  exact ⟨x,⟨hF,Nat.le_trans hp.ext.size hs,hp.fresh hs⟩,he,(hp.calm hE).add hg (hp.fresh hs) (.inl (Nat.le_trans hp.ext.size hs))⟩
end
end K
end Go.Proofs.YtohjpggjgomgoaaGreatDoor
namespace Go.Proofs.YtohjpggjgomgoaaGreatDoor
namespace K
def bv (l : List UInt8) : Array Value := (l.map fun b => Value.int .u8 b.toNat).toArray
theorem bv_size (l : List UInt8) : (bv l).size = l.length := by simp [bv]
theorem bv_get {l : List UInt8} {n i : Nat} (hl : l.length = n) (h : i < n) : (bv l)[i]? = some (.int .u8 ((l.getD i 0).toNat : Int)) := by
 have h' : i < l.length := by omega
 simp [bv,List.getElem?_eq_getElem h']
theorem bv_set {l : List UInt8} {i : Nat} {x : Int} (h0 : 0 ≤ x) (h1 : x ≤ 255) : (bv l).setIfInBounds i (.int .u8 x) = bv (l.set i (UInt8.ofNat x.toNat)) := by
 apply Array.ext'
 simp [bv,List.map_set]
 rw [show max x 0 % 256 = x by omega]
section
variable {P : Program} {w0 w : World} {M : List Nat} {R O : List (Nat × Obj)}
theorem load_row {g n : Nat} {t ty : TypeId} {cs : Array Value} {fr : Nat × Nat} {d : TypeDesc} (hg : w.heap[g]? = some (.cells cs t fr)) (hu : P.underlying ty = some d) (hd : (match d with | .struct _ | .array _ _ => true | _ => false) = true)
  (hi : (P.info? ty).map (·.size) = some n) (hn : cs.size = n) : (loadVar ty ⟨g,0,none⟩).run P w = .ok (.agg cs) w :=
 run_loadVar_row w g t ty cs fr d hg hu hd (by rw [hn]; exact hi)
theorem HP.oload (h : HP w0 M R O w) (i : Nat) {b n : Nat} {ty t : TypeId} {cs : Array Value} {fr : Nat × Nat} {d : TypeDesc} (ho : O[i]? = some (b,.cells cs t fr)) (hu : P.underlying ty = some d) (hd : (match d with | .struct _ | .array _ _ => true | _ => false) = true)
  (hi : (P.info? ty).map (·.size) = some n) (hn : cs.size = n) : (loadVar ty ⟨b,0,none⟩).run P w = .ok (.agg cs) w :=
 load_row (h.own _ (List.mem_of_getElem? ho)) hu hd hi hn
theorem run_loadCellsFrom {b off : Nat} (f : Nat → Value) : ∀ (n i : Nat) (acc : Array Value),(∀ j,i ≤ j → j < i + n → w.cell? ⟨b,off + j,none⟩ = some (f j)) →
  (loadCellsFrom ⟨b,off,none⟩ i n acc).run P w = .ok (acc ++ ((List.range' i n).map f).toArray) w
 | 0,i,acc,_ => by simp [loadCellsFrom]
 | n + 1,i,acc,h => by
  have h0 := h i (Nat.le_refl _) om
  have hl : (load (Addr.add ⟨b,off,none⟩ i)).run P w = .ok (f i) w := by
   rw [add_none]; simp [load,Sem.run,h0]
  have ih := run_loadCellsFrom f n (i + 1) (acc.push (f i)) (fun j h1 h2 => h j om om)
  unfold loadCellsFrom
  simp only [Sem.run_bind,hl,Result.andThen_ok,ih,List.range'_succ,List.map_cons]
  congr 1
  apply Array.ext'
  simp
theorem run_loadCells {b off n : Nat} (f : Nat → Value) (h : ∀ j,j < n → w.cell? ⟨b,off + j,none⟩ = some (f j)) : (loadCells ⟨b,off,none⟩ n).run P w = .ok ((List.range n).map f).toArray w := by
 have := run_loadCellsFrom (P := P) (w := w) (b := b) (off := off) f n 0 #[] (fun j _ hj => h j om)
 simpa [loadCells,List.range_eq_range'] using this
theorem foldl_push (l : List UInt8) : ∀ (s : ByteArray),(l.map fun b => (b.toNat : Int)).foldl (fun r n => r.push (UInt8.ofNat n.toNat)) s = ⟨s.data ++ l.toArray⟩ := by
 induction l with
 | nil => intro s; simp
 | cons x l ih =>
  intro s
  simp only [List.map_cons,List.foldl_cons,ih]
  congr 1
  apply Array.ext'
  simp [ByteArray.push]
theorem bytes_str {b off n c : Nat} {l : List UInt8} (hl : l.length = n) (h : ∀ j,j < n → w.cell? ⟨b,off + j,none⟩ = some (.int .u8 ((l.getD j 0).toNat : Int))) :
  (Conv.bytesToString (.slice (some ⟨b,off,none⟩) n c)).run P w = .ok (.string ⟨l.toArray⟩) w := by
 have h1 := run_loadCells (P := P) (w := w) (b := b) (off := off) (n := n) (fun j => .int .u8 ((l.getD j 0).toNat : Int)) h
 have h2 : ((List.range n).map fun j => Value.int .u8 ((l.getD j 0).toNat : Int)) = (l.map fun b => (b.toNat : Int)).map (Value.int .u8) := by
  apply List.ext_getElem?
  intro i
  by_cases hi : i < n
  ·have hi' : i < l.length := by omega
   simp [hi,List.getElem?_eq_getElem hi']
  ·have hi' : l.length ≤ i := by omega
   simp [hi,List.getElem?_eq_none hi']
 rw [h2] at h1
 rw [run_bytesToString w _ n c _ h1,foldl_push]
 simp [ByteArray.empty,ByteArray.emptyWithCapacity]
 rfl
theorem HP.ostr (h : HP w0 M R O w) (i : Nat) {b n c : Nat} {t : TypeId} {fr : Nat × Nat} {l : List UInt8} (ho : O[i]? = some (b,.cells (bv l) t fr)) (hl : l.length = n) :
  (Conv.bytesToString (.slice (some ⟨b,0,none⟩) n c)).run P w = .ok (.string ⟨l.toArray⟩) w :=
 bytes_str hl fun j hj => by rw [Nat.zero_add]; exact h.ocell i ho (bv_get hl hj)
def spl (cs : Array Value) (off : Nat) : List Value → Array Value
 | [] => cs
 | v :: vs => spl (cs.setIfInBounds off v) (off + 1) vs
theorem spl_list (A B C : List Value) : ∀ (vs : List Value),vs.length = B.length → spl (A ++ B ++ C).toArray A.length vs = (A ++ vs ++ C).toArray := by
 induction B generalizing A with
 | nil => intro vs h; cases vs with
  | nil => rfl
  | cons _ _ => simp at h
 | cons x B ih =>
  intro vs h
  cases vs with
  | nil => simp at h
  | cons v vs =>
   have := ih (A ++ [v]) vs (by simpa using h)
   simp only [spl]
   have e : (A ++ (x :: B) ++ C).toArray.setIfInBounds A.length v = (A ++ [v] ++ B ++ C).toArray := by
    apply Array.ext'
    simp
   rw [e]
   simpa using this
theorem spl_all {cs vs : Array Value} (h : vs.size = cs.size) : spl cs 0 vs.toList = vs := by
 have := spl_list [] cs.toList [] vs.toList (by simpa using h)
 simpa using this
theorem run_storeCells {b off : Nat} {t : TypeId} : ∀ (vs : List Value) (i : Nat) (cs : Array Value) (w : World),w.heap[b]? = some (.cells cs t (0,0)) → off + i + vs.length ≤ cs.size → (∀ v ∈ vs,one v = true) →
  ∃ w',(storeCells ⟨b,off,none⟩ vs i).run P w = .ok () w' ∧ w'.heap = w.heap.setIfInBounds b (.cells (spl cs (off + i) vs) t (0,0)) ∧ w'.os = w.os ∧ w'.tape = w.tape ∧ w'.output = w.output
 | [],i,cs,w,hb,_,_ => by
  refine ⟨w,rfl,?_,rfl,rfl,rfl⟩
  simp only [spl]
  apply Array.ext_getElem?
  intro k
  have hlt := lt_of_get hb
  by_cases hk : b = k
  ·subst hk; rw [hb]; simp [hlt]
  ·simp [hk]
 | v :: vs,i,cs,w,hb,hl,h1 => by
  have hi : off + i < cs.size := by simp at hl; omega
  have hc : w.cell? ⟨b,off + i,none⟩ = some (cs[off + i]) := by rw [cell_cells hb]; exact Array.getElem?_eq_getElem hi
  have hfz : w.frozen? ⟨b,off + i,none⟩ = false := by simp [World.frozen?,hb]
  have hv1 := h1 v (List.mem_cons_self ..)
  have hst : (store (Addr.add ⟨b,off,none⟩ i) v).run P w = .ok () (w.setCell ⟨b,off + i,none⟩ v) := by
   rw [add_none]
   unfold store
   cases v <;> simp [K.one] at hv1 <;> simp [Sem.run,hc,hfz]
  have hh := setCell_heap (off := off + i) (v := v) hb
  have hb' : (w.setCell ⟨b,off + i,none⟩ v).heap[b]? = some (.cells (cs.setIfInBounds (off + i) v) t (0,0)) := by rw [hh]; simp [lt_of_get hb]
  obtain ⟨w',hr,hw,h2,h3,h4⟩ := run_storeCells (off := off) vs (i + 1) _ _ hb' (by simp at hl ⊢; omega) (fun x hx => h1 x (List.mem_cons_of_mem _ hx))
  refine ⟨w',?_,?_,h2,h3,h4⟩
  ·unfold storeCells
   simp only [Sem.run_bind,hst,Result.andThen_ok,hr]
  ·rw [hw,hh]
   simp only [spl]
   apply Array.ext_getElem?
   intro k
   by_cases hk : b = k
   ·subst hk; simp [lt_of_get hb,Nat.add_assoc]
   ·simp [hk]
theorem all_bv (l : List UInt8) : ∀ v ∈ (bv l).toList,one v = true := by
 intro v hv
 simp only [bv,List.mem_map] at hv
 obtain ⟨x,_,rfl⟩ := hv
 rfl
theorem equal_bv {t e : TypeId} {n : Nat} (ht : P.underlying t = some (.array n e)) (he : P.underlying e = some (.int .u8)) (hsz : (P.info? e).map (·.size) = some 1) {xs ys : List UInt8} (hx : xs.length = n) (hy : ys.length = n) :
  (Op.equal t (.agg (bv xs)) (.agg (bv ys))).run P w = .ok (xs == ys) w := by
 obtain ⟨inf,hi,hs⟩ := Option.map_eq_some_iff.1 hsz
 exact run_equalIn_bytes w 9998 t e n ht he (fun w => by rw [run_sizeOf' hi,hs]) xs ys hx hy
variable {C : Cx} {Γ : Env} {o : Oper}
theorem Eff.storeN {t : TypeId} {x y : Operand} {b off : Nat} {vs : Array Value} (ho : o.op = .store t x y) (hx : opd Γ [] x = some (.pointer (some ⟨b,off,none⟩))) (hy : opd Γ [] y = some (.agg vs)) {n : Nat}
  (hsz0 : (C.P.info? t).map (·.size) = some n) (hn : vs.size = n) (h1 : ∀ v ∈ vs.toList,one v = true) (i : Nat) {cs : Array Value} {e : TypeId} (hO : O[i]? = some (b,.cells cs e (0,0))) (hoff : off + n ≤ cs.size) :
  Eff C R O Γ o Unit (fun _ => undef) (fun _ => O.set i (b,.cells (spl cs off vs.toList) e (0,0))) (fun _ => True) := by
 refine Eff.of_skip fun a w hs hp => ?_
 obtain ⟨inf,hi,hsz⟩ := Option.map_eq_some_iff.1 hsz0
 have hb := hp.own _ (List.mem_of_getElem? hO)
 obtain ⟨w',hr,hw,h2,h3,h4⟩ := run_storeCells (P := C.P) (off := off) vs.toList 0 cs w hb (by simp; omega) h1
 refine ⟨(),w',trivial,?_,hp.set i _ hO hw h2 h3 h4⟩
 have hsz' : vs.size = inf.size := by omega
 simp [execOp,ho,opd_ok hs (holds_nil _) hx,opd_ok hs (holds_nil _) hy,Instr.storeAt,Instr.sureAddr,storeVar,run_sizeOf' hi,hsz',Value.cells,hr]
end
end K
end Go.Proofs.YtohjpggjgomgoaaGreatDoor
namespace Go.Proofs.YtohjpggjgomgoaaGreatDoor
namespace K
abbrev Own := Option (Nat × Nat × List Value)
def Own.a : Own → Option Addr
 | none => none
 | some p => some ⟨p.1,0,none⟩
def Own.c : Own → Nat
 | none => 0
 | some p => p.2.1
def Own.o (e : TypeId) (xs : List Value) : Own → List (Nat × Obj)
 | none => []
 | some p => [(p.1,.cells (xs ++ p.2.2).toArray e (0,0))]
structure OwnOk (o : Own) (sz n : Nat) (xs : List Value) : Prop where
 len : xs.length = n * sz
 nil : o = none → n = 0
 some : ∀ p,o = some p → xs.length + p.2.2.length = p.2.1 * sz ∧ n ≤ p.2.1
theorem OwnOk.none (sz : Nat) : OwnOk none sz 0 [] := ⟨by simp,fun _ => rfl,fun _ h => by cases h⟩
theorem zeroCells_size (z : Array Value) (n : Nat) : (Builtin.zeroCells z n).size = n * z.size := by simp [Builtin.zeroCells]
section
variable {C : Cx} {R O : List (Nat × Obj)} {Γ : Env} {op : Oper}
theorem one_cell {v : Value} (h : one v = true) : v.oneCell' = true := by cases v <;> first | rfl | simp [K.one] at h
theorem setRow_get {w : World} {g : Nat} {cur cs : Array Value} {e : TypeId} (hg : w.heap[g]? = some (.cells cur e (0,0))) : (w.setRow g cs).heap = w.heap.setIfInBounds g (.cells cs e (0,0)) := by
 apply Array.ext_getElem?
 intro k
 by_cases hk : g = k
 ·subst hk
  rw [setRow_heap w g cur cs e _ hg]; simp [lt_of_get hg]
 ·rw [setRow_other w g k cs (fun h => hk h.symm)]; simp [hk]
theorem Eff.append {t e : TypeId} {x1 x2 : Operand} (ho : op.op = .call ⟨.builtin .append,#[x1,x2],#[t,t]⟩) (sz bytes : Nat) (ht : C.P.underlying t = some (.slice e)) (hsz : (C.P.info? e).map (fun i => (i.size,i.bytes)) = some (sz,bytes))
  {z : Value} (hz0 : (C.P.info? e).bind (·.zero) = some z) (hzs : z.cells.size = sz) (own : Own) {n : Nat} {xs : List Value} (hok : OwnOk own sz n xs) (h1 : opd Γ [] x1 = some (.slice own.a n own.c))
  {b2 off2 m c2 : Nat} (h2 : opd Γ [] x2 = some (.slice (some ⟨b2,off2,none⟩) m c2)) (news : List Value) (hl : news.length = m * sz) (hone : ∀ v ∈ news,one v = true)
  (hsrc : ∀ w,HP C.w0 C.M R O w → ∀ j v,news[j]? = some v → w.cell? ⟨b2,off2 + j,none⟩ = some v) (O1 : List (Nat × Obj)) (hO : O = own.o e xs ++ O1) (hroom : (n + m) * bytes ≤ 140737488355328) (h63 : n + m ≤ 9223372036854775807) :
  Eff C R O Γ op Own (fun o => .slice o.a (n + m) o.c) (fun o => o.o e (xs ++ news) ++ O1) (fun o => OwnOk o sz (n + m) (xs ++ news)) := by
 refine Eff.of_run fun a w hs hp => ?_
 obtain ⟨inf,hi,hse⟩ := Option.map_eq_some_iff.1 hsz
 obtain ⟨inf',hi',hz⟩ := Option.bind_eq_some_iff.1 hz0
 rw [hi] at hi'
 simp only [Option.some.injEq] at hi'
 subst hi'
 simp only [Prod.mk.injEq] at hse
 obtain ⟨rfl,rfl⟩ := hse
 have hnews : ∀ j v,news[j]? = some v → w.cell? (Addr.add ⟨b2,off2,none⟩ j) = some v := fun j v hj => by rw [add_none]; exact hsrc w hp j v hj
 have hlen : (xs ++ news).length = (n + m) * inf.size := by rw [List.length_append,hok.len,hl,Nat.add_mul]
 have hex : ∀ {v : Value} {w' : World},(Builtin.append_ #[t,t] op.type #[a.eval x1,a.eval x2]).run C.P w = .ok v w' → (execOp a.eval op).run C.P w = .ok (.value v) w' := by
  intro v w' h
  simp [execOp,ho,resolve,invoke,builtin,h]
 have e1 := opd_ok hs (holds_nil _) h1
 have e2 := opd_ok hs (holds_nil _) h2
 have fresh : ∀ (c : Nat),n + m ≤ c → HP C.w0 C.M R O1 w → HP C.w0 C.M R (Own.o e (xs ++ news) (some (w.heap.size,c,(Builtin.zeroCells z.cells (c - (n + m))).toList)) ++ O1) (w.drew.alloc (.cells (xs.toArray ++ news.toArray ++ Builtin.zeroCells z.cells (c - (n + m))) e)) ∧
   OwnOk (some (w.heap.size,c,(Builtin.zeroCells z.cells (c - (n + m))).toList)) inf.size (n + m) (xs ++ news) := by
  intro c hc hp1
  have hp2 := (hp1.calm (ext_drew w)).alloc (.cells (xs.toArray ++ news.toArray ++ Builtin.zeroCells z.cells (c - (n + m))) e (0,0))
  refine ⟨?_,hlen,fun h => (by cases h),fun p hp' => ?_⟩
  ·have e3 : (xs.toArray ++ news.toArray ++ Builtin.zeroCells z.cells (c - (n + m))) = (xs ++ news ++ (Builtin.zeroCells z.cells (c - (n + m))).toList).toArray := by
    apply Array.ext'
    simp
   rw [e3] at hp2 ⊢
   exact hp2
  ·simp only [Option.some.injEq] at hp'
   subst hp'
   refine ⟨?_,hc⟩
   simp only [Array.length_toList,zeroCells_size,hzs,hlen,← Nat.add_mul]
   congr 1
   omega
 cases own with
 | none =>
  have hn := hok.nil rfl
  subst hn
  have hx : xs = [] := List.eq_nil_of_length_eq_zero (by simpa using hok.len)
  subst hx
  simp only [Own.o,List.nil_append] at hO
  subst hO
  by_cases hm : m = 0
  ·subst hm
   have hnn : news = [] := List.eq_nil_of_length_eq_zero (by simpa using hl)
   subst hnn
   refine ⟨none,w,OwnOk.none _,hex ?_,hp⟩
   rw [e1,e2]
   simp [Builtin.append_,run_underlying' ht,run_sizeOf' hi,Builtin.lenOf,Builtin.firstCells,loadCells,loadCellsFrom,Own.a,Own.c]
  ·obtain ⟨f1,f2⟩ := fresh (grownCap w m 0 e) (by have := grownCap_ge w m 0 e; omega) hp
   refine ⟨some (w.heap.size,grownCap w m 0 e,_),_,f2,hex ?_,f1⟩
   rw [e1,e2]
   have hr := run_append_nil (P := C.P) w t op.type e inf z ht hi hz ⟨b2,off2,none⟩ m c2 news hl hnews om om (by simp only [Nat.zero_add] at hroom; omega)
   simp only [Own.a,Own.c,Nat.zero_add,Array.empty_append] at hr ⊢
   exact hr
 | some p =>
  obtain ⟨b,cap,junk⟩ := p
  obtain ⟨hj,hnc⟩ := hok.some _ rfl
  simp only at hj hnc
  have hget : O[0]? = some (b,.cells (xs ++ junk).toArray e (0,0)) := by rw [hO]; rfl
  have hb := hp.own _ (List.mem_of_getElem? hget)
  have hp1 : HP C.w0 C.M R O1 w := hp.sub (by rw [hO]; exact List.sublist_append_right _ _)
  by_cases hr : n + m ≤ cap
  ·have hfit : n * inf.size + news.length ≤ (xs ++ junk).toArray.size := by
    simp only [List.size_toArray,List.length_append,hj,hl,← Nat.add_mul]
    exact Nat.mul_le_mul_right _ hr
   have hrun := Go.run_append_room (P := C.P) w t op.type e inf ht hi b n cap (xs ++ junk).toArray hb ⟨b2,off2,none⟩ m c2 news hl hnews (fun u hu => one_cell (hone u hu)) hr hfit
   have e3 : ((xs ++ junk).toArray.toList.take (n * inf.size) ++ news ++ (xs ++ junk).toArray.toList.drop (n * inf.size + news.length)) = xs ++ news ++ junk.drop news.length := by
    rw [← hok.len]
    simp [List.drop_append,List.drop_eq_nil_of_le (show xs.length ≤ xs.length + news.length by omega)]
   rw [e3] at hrun
   refine ⟨some (b,cap,junk.drop news.length),_,⟨hlen,fun h => (by cases h),fun p hp' => ?_⟩,hex (by rw [e1,e2]; exact hrun),?_⟩
   ·simp only [Option.some.injEq] at hp'
    subst hp'
    refine ⟨?_,hr⟩
    have hle : news.length ≤ junk.length := by
     simp only [List.size_toArray,List.length_append,← hok.len] at hfit
     omega
    simp only [List.length_append,List.length_drop]
    omega
   ·have := hp.set 0 (.cells (xs ++ news ++ junk.drop news.length).toArray e (0,0)) hget (setRow_get hb) rfl rfl rfl
    rw [hO] at this
    exact this
  ·obtain ⟨f1,f2⟩ := fresh (grownCap w (n + m) cap e) (grownCap_ge w (n + m) cap e) hp1
   have holds : ∀ j v,xs[j]? = some v → w.cell? (Addr.add ⟨b,0,none⟩ j) = some v := fun j v hjv => by
    rw [add_none,Nat.zero_add,cell_cells hb]
    have hlt : j < xs.length := (List.getElem?_eq_some_iff.1 hjv).1
    simp [List.getElem?_append_left hlt,hjv]
   have hrun := Go.run_append_grow (P := C.P) w t op.type e inf z ht hi hz ⟨b,0,none⟩ n cap xs hok.len holds ⟨b2,off2,none⟩ m c2 news hl hnews om om (growslice_fits om hroom)
   exact ⟨some (w.heap.size,grownCap w (n + m) cap e,_),_,f2,hex (by rw [e1,e2]; exact hrun),f1⟩
theorem own_some {o : Own} {sz n : Nat} {xs : List Value} (h : OwnOk o sz n xs) (hn : 0 < n) : ∃ p,o = some p := by
 cases o with
 | none => have := h.nil rfl; omega
 | some p => exact ⟨p,rfl⟩
def Has (w : World) (L : List (Nat × Obj)) : Prop := ∀ e ∈ L,w.heap[e.1]? = some e.2
theorem HP.ofHas {w : World} {L : List (Nat × Obj)} (h : Has w L) : HP w [] L [] w :=
 ⟨Ext.refl _ _,h,fun e he => ⟨lt_of_get (h e he),by simp⟩,(fun _ h => by cases h),by simp,(fun _ h => by cases h)⟩
theorem HP.has {w0 w : World} {M : List Nat} {L : List (Nat × Obj)} (h : HP w0 M R O w) (hL : ∀ e ∈ L,e ∈ O) : Has w L := fun e he => h.own e (hL e he)
theorem HP.hasR {w0 w : World} {M : List Nat} {L : List (Nat × Obj)} (h : HP w0 M R O w) (hL : ∀ e ∈ L,e ∈ R) : Has w L := fun e he => h.ro e (hL e he)
theorem HP.addOwn {w0 w w' : World} {M : List Nat} (h : HP w0 M R O w) (hx : Ext [] w w') {o : Own} {e : TypeId} {xs : List Value} (hh : Has w' (o.o e xs)) (hf : ∀ x ∈ o.o e xs,w.heap.size ≤ x.1) : HP w0 M R (o.o e xs ++ O) w' := by
 have h1 := h.calm hx
 cases o with
 | none => exact h1
 | some p =>
  have hb := hh _ (List.mem_cons_self ..)
  have hs := hf _ (List.mem_cons_self ..)
  exact h1.add hb (h.fresh hs) (.inl (Nat.le_trans h.ext.size hs))
theorem Eff.callO {f : FuncId} {fn : Func} {c : Code} {xs : List Operand} {tys : Array TypeId} {vs : List Value} (e : TypeId) (sz n : Nat) (cells : List Value) (ho : op.op = .call ⟨.value (.func f),xs.toArray,tys⟩) (hf : C.P.funcs[f]? = some fn)
  (hnm : (fn.name == "runtime.NumGoroutine") = false) (hb : fn.body = some c) (hx : opds Γ xs = some vs)
  (h : ∀ w,HP C.w0 C.M R O w → Calls C.P f vs.toArray w fun en w' => ∃ o : Own,OwnOk o sz n cells ∧ en = .returned (.slice o.a n o.c) ∧ Has w' (o.o e cells) ∧ (∀ x ∈ o.o e cells,w.heap.size ≤ x.1) ∧ Ext [] w w') :
  Eff C R O Γ op Own (fun o => .slice o.a n o.c) (fun o => o.o e cells ++ O) (fun o => OwnOk o sz n cells) :=
 Eff.call ho hf hnm hb hx fun w hp => (h w hp).mono fun _ _ hh => by
  obtain ⟨o,hok,he,h1,h2,h3⟩ := hh
  exact ⟨o,hok,he,hp.addOwn h3 h1 h2⟩
theorem foldl_set {vs : List Value} : ∀ (k : Nat) (A B : List Value),B.length = vs.length → A.length = k → (vs.zipIdx k).foldl (fun (cs : Array Value) (p : Value × Nat) => cs.setIfInBounds (0 + p.2) p.1) (A ++ B).toArray = (A ++ vs).toArray := by
 induction vs with
 | nil => intro k A B h _; have : B = [] := List.eq_nil_of_length_eq_zero (by simpa using h); subst this; rfl
 | cons v vs ih =>
  intro k A B h hA
  cases B with
  | nil => simp at h
  | cons b B =>
   simp only [List.zipIdx_cons,List.foldl_cons]
   have e1 : (A ++ b :: B).toArray.setIfInBounds (0 + k) v = ((A ++ [v]) ++ B).toArray := by
    apply Array.ext'
    subst hA
    simp
   rw [e1,ih (k + 1) (A ++ [v]) B (by simpa using h) (by simp [hA])]
   simp
theorem fill_one {X vs : Array Value} {n : Nat} (hX : X.size = n) (hv : vs.size = n) : Instr.fill (fun i => some (i * n,n)) X [(0,.agg vs)] = some vs := by
 have h1 := foldl_set (vs := vs.toList) 0 [] X.toList (by simp; omega) rfl
 simp only [List.nil_append,Array.toArray_toList] at h1
 have h2 : vs.zipIdx.foldl (fun (cs : Array Value) (p : Value × Nat) => cs.setIfInBounds (0 + p.2) p.1) X = vs := by
  rw [← Array.foldl_toList,Array.toList_zipIdx]; exact h1
 have h3 : ¬ (vs.size ≠ n) := by omega
 have h4 : ¬ (0 + vs.size > X.size) := by omega
 unfold Instr.fill
 simp only [Value.cells,Nat.zero_mul,Instr.fill,h3,h4,decide_false,Bool.or_self,Bool.false_eq_true,if_false]
 exact congrArg some h2
theorem run_buildSlice_agg {P : Program} {w : World} {t e : TypeId} {vs : Array Value} {inf : TypeInfo} {z : Value} (ht : P.underlying t = some (.slice e)) (hi : P.info? e = some inf) (hz : inf.zero = some z) (hvs : vs.size = inf.size) (h0 : 0 < inf.size) (h1 : inf.size ≤ 16777216) :
  (Instr.buildSlice t 1 #[(0,.agg vs)]).run P w = .ok (.slice (some ⟨w.heap.size,0,none⟩) 1 1) (w.alloc (.cells vs e (0,0))) := by
 have hn : ¬ inf.size > 2 ^ 24 := by omega
 have hn0 : ¬ inf.size = 0 := by omega
 have hf := fill_one (X := (Array.range inf.size).map (z.cells[· % z.cells.size]!)) (vs := vs) (n := inf.size) (by simp) hvs
 simp [Instr.buildSlice,run_underlying' ht,run_sizeOf' hi,hn,hn0,zeroValue,typeInfo,program,Sem.run,hi,hz,hf,newRow,newObj]
theorem Eff.buildAgg {t e : TypeId} {x : Operand} {vs : Array Value} (ho : op.op = .buildSlice t 1 #[(0,x)]) (hx : opd Γ [] x = some (.agg vs)) (ht : C.P.underlying t = some (.slice e)) {n : Nat} (hsz : (C.P.info? e).map (·.size) = some n) {z : Value} (hz0 : (C.P.info? e).bind (·.zero) = some z)
  (hvs : vs.size = n) (h0 : 0 < n) (h1 : n ≤ 16777216) :
  Eff C R O Γ op Nat (fun b => .slice (some ⟨b,0,none⟩) 1 1) (fun b => (b,.cells vs e (0,0)) :: O) (fun b => C.w0.heap.size ≤ b ∧ b ∉ O.map (·.1)) := by
 refine Eff.of_run fun a w hs hp => ⟨w.heap.size,w.alloc (.cells vs e (0,0)),⟨hp.ext.size,hp.fresh (Nat.le_refl _)⟩,?_,hp.alloc _⟩
 obtain ⟨inf,hi,hse⟩ := Option.map_eq_some_iff.1 hsz
 obtain ⟨inf',hi',hz⟩ := Option.bind_eq_some_iff.1 hz0
 rw [hi] at hi'
 simp only [Option.some.injEq] at hi'
 subst hi'
 subst hse
 have hr := run_buildSlice_agg (P := C.P) (w := w) ht hi hz hvs h0 h1
 simp [execOp,ho,opd_ok hs (holds_nil _) hx,hr]
theorem HP.perm {w0 w : World} {M : List Nat} {O' : List (Nat × Obj)} (h : HP w0 M R O w) (hp : O.Perm O') : HP w0 M R O' w :=
 ⟨h.ext,h.ro,h.rod,fun e he => h.own e (hp.mem_iff.2 he),(hp.map _).nodup_iff.1 h.dist,fun e he => h.mine e (hp.mem_iff.2 he)⟩
theorem Eff.perm {O2 : List (Nat × Obj)} {ι : Type} {V : ι → Value} {O' O2' : ι → List (Nat × Obj)} {F : ι → Prop} (h : Eff C R O2 Γ op ι V O2' F) (h1 : O.Perm O2) (h2 : ∀ x,(O2' x).Perm (O' x)) : Eff C R O Γ op ι V O' F :=
 fun a w hs hp Kt Q hK => h a w hs (hp.perm h1) Kt Q (fun x w' hF hp' => hK x w' hF (hp'.perm (h2 x)))
theorem Eff.appendF {t e : TypeId} {x1 x2 : Operand} (ho : op.op = .call ⟨.builtin .append,#[x1,x2],#[t,t]⟩) (sz bytes : Nat) (ht : C.P.underlying t = some (.slice e)) (hsz : (C.P.info? e).map (fun i => (i.size,i.bytes)) = some (sz,bytes))
  {z : Value} (hz0 : (C.P.info? e).bind (·.zero) = some z) (hzs : z.cells.size = sz) (own : Own) {n : Nat} {xs : List Value} (hok : OwnOk own sz n xs) (h1 : opd Γ [] x1 = some (.slice own.a n own.c))
  {b2 off2 m c2 : Nat} (h2 : opd Γ [] x2 = some (.slice (some ⟨b2,off2,none⟩) m c2)) (news : List Value) (hl : news.length = m * sz) (hone : ∀ v ∈ news,one v = true) (Fl T : List (Nat × Obj)) (hO : O = Fl ++ (own.o e xs ++ T))
  (hsrc : ∀ w,HP C.w0 C.M R O w → ∀ j v,news[j]? = some v → w.cell? ⟨b2,off2 + j,none⟩ = some v) (hroom : (n + m) * bytes ≤ 140737488355328) (h63 : n + m ≤ 9223372036854775807) :
  Eff C R O Γ op Own (fun o => .slice o.a (n + m) o.c) (fun o => Fl ++ (o.o e (xs ++ news) ++ T)) (fun o => OwnOk o sz (n + m) (xs ++ news)) := by
 have hperm : O.Perm (own.o e xs ++ (Fl ++ T)) := by rw [hO]; exact List.perm_append_comm_assoc _ _ _
 exact (Eff.append ho sz bytes ht hsz hz0 hzs own hok h1 h2 news hl hone (fun w hp => hsrc w (hp.perm hperm.symm)) (Fl ++ T) rfl hroom h63).perm hperm (fun x => List.perm_append_comm_assoc _ _ _)
theorem Eff.callOF {f : FuncId} {fn : Func} {c : Code} {xs : List Operand} {tys : Array TypeId} {vs : List Value} (e : TypeId) (sz n : Nat) (cells : List Value) (Fl T : List (Nat × Obj)) (hO : O = Fl ++ T) (ho : op.op = .call ⟨.value (.func f),xs.toArray,tys⟩) (hf : C.P.funcs[f]? = some fn)
  (hnm : (fn.name == "runtime.NumGoroutine") = false) (hb : fn.body = some c) (hx : opds Γ xs = some vs)
  (h : ∀ w,HP C.w0 C.M R O w → Calls C.P f vs.toArray w fun en w' => ∃ o : Own,OwnOk o sz n cells ∧ en = .returned (.slice o.a n o.c) ∧ Has w' (o.o e cells) ∧ (∀ x ∈ o.o e cells,w.heap.size ≤ x.1) ∧ Ext [] w w') :
  Eff C R O Γ op Own (fun o => .slice o.a n o.c) (fun o => Fl ++ (o.o e cells ++ T)) (fun o => OwnOk o sz n cells) :=
 (Eff.callO e sz n cells ho hf hnm hb hx h).perm (List.Perm.refl _) (fun x => by rw [hO]; exact List.perm_append_comm_assoc _ _ _)
def InS (Rl : List (Nat × Obj)) (la : Option Addr) (k : Nat) (f : Nat → Value) : Prop :=
 0 < k → ∃ b off cs t fr,la = some ⟨b,off,none⟩ ∧ (b,Obj.cells cs t fr) ∈ Rl ∧ ∀ j,j < k → cs[off + j]? = some (f j)
theorem InS.mono {Rl Rl' : List (Nat × Obj)} {la : Option Addr} {k : Nat} {f : Nat → Value} (h : InS Rl la k f) (hR : ∀ e ∈ Rl,e ∈ Rl') : InS Rl' la k f := by
 intro hk
 obtain ⟨b,off,cs,t,fr,h1,h2,h3⟩ := h hk
 exact ⟨b,off,cs,t,fr,h1,hR _ h2,h3⟩
theorem has_app {w : World} {A B : List (Nat × Obj)} (ha : Has w A) (hb : Has w B) : Has w (A ++ B) := by
 intro e he
 rcases List.mem_append.1 he with h | h
 ·exact ha e h
 ·exact hb e h
theorem load_bytes {P : Program} {w : World} {b off n : Nat} {ty : TypeId} {d : TypeDesc} {l : List UInt8} (hu : P.underlying ty = some d) (hd : (match d with | .struct _ | .array _ _ => true | _ => false) = true) (hi : (P.info? ty).map (·.size) = some n) (hl : l.length = n)
  (h : ∀ j,j < n → w.cell? ⟨b,off + j,none⟩ = some (.int .u8 ((l.getD j 0).toNat : Int))) : (loadVar ty ⟨b,off,none⟩).run P w = .ok (.agg (bv l)) w := by
 obtain ⟨inf,hinf,hs⟩ := Option.map_eq_some_iff.1 hi
 have h1 := run_loadCells (P := P) (w := w) (b := b) (off := off) (n := n) (fun j => .int .u8 ((l.getD j 0).toNat : Int)) h
 have h2 : ((List.range n).map fun j => Value.int .u8 ((l.getD j 0).toNat : Int)).toArray = bv l := by
  apply Array.ext'
  simp only [bv]
  apply List.ext_getElem?
  intro i
  by_cases hi : i < n
  ·have hi' : i < l.length := by omega
   simp [hi,List.getElem?_eq_getElem hi']
  ·have hi' : l.length ≤ i := by omega
   simp [hi,List.getElem?_eq_none hi']
 rw [h2] at h1
 have h3 : (isAgg ty).run P w = .ok true w := by
  simp only [isAgg,Sem.run_bind,run_underlying' hu,Result.andThen_ok]
  cases d <;> simp_all
 have h4 : (sizeOf ty).run P w = .ok n w := by rw [run_sizeOf' hinf,hs]
 simp [loadVar,h3,h4,h1]
end
end K
end Go.Proofs.YtohjpggjgomgoaaGreatDoor
namespace Go.Proofs.YtohjpggjgomgoaaGreatDoor
namespace K
theorem HP.startM {w : World} {R : List (Nat × Obj)} {b : Nat} {ob : Obj} (hR : Has w R) (hb : w.heap[b]? = some ob) (hn : b ∉ R.map (·.1)) : HP w [b] R [(b,ob)] w :=
 ⟨Ext.refl _ _,hR,fun e he => ⟨lt_of_get (hR e he),fun hm => hn (by
  simp only [List.mem_cons,List.not_mem_nil,or_false] at hm
  rw [← hm]; exact List.mem_map.2 ⟨e,he,rfl⟩)⟩,(fun e he => by
  simp only [List.mem_cons,List.not_mem_nil,or_false] at he
  subst he; exact hb),by simp,(fun e he => by
  simp only [List.mem_cons,List.not_mem_nil,or_false] at he
  subst he; exact .inr (List.mem_cons_self ..))⟩
section
variable {C : Cx} {R O : List (Nat × Obj)} {Γ : Env} {o : Oper}
theorem Eff.copyS {t1 t2 e : TypeId} {x1 x2 : Operand} (ho : o.op = .call ⟨.builtin .copy,#[x1,x2],#[t1,t2]⟩) (ht : C.P.underlying t1 = some (.slice e)) (hsz : (C.P.info? e).map (·.size) = some 1)
  {b off dl c : Nat} (h1 : opd Γ [] x1 = some (.slice (some ⟨b,off,none⟩) dl c)) {s : ByteArray} (h2 : opd Γ [] x2 = some (.string s)) (i : Nat) {cs : Array Value} {te : TypeId} (hO : O[i]? = some (b,.cells cs te (0,0))) (n : Nat) (hn : n = min s.size dl) (hoff : off + n ≤ cs.size) :
  Eff C R O Γ o Unit (fun _ => .int .i64 (n : Int)) (fun _ => O.set i (b,.cells (spl cs off (bv (s.data.toList.take n)).toList) te (0,0))) (fun _ => True) := by
 refine Eff.of_run fun a w hs hp => ?_
 obtain ⟨inf,hi,hs1⟩ := Option.map_eq_some_iff.1 hsz
 have hb := hp.own _ (List.mem_of_getElem? hO)
 have hlen : (bv (s.data.toList.take n)).toList.length = n := by
  rw [Array.length_toList,bv_size,List.length_take,Array.length_toList]
  have : s.data.size = s.size := rfl
  omega
 obtain ⟨w',hr,hw,h3,h4,h5⟩ := run_storeCells (P := C.P) (off := off) (bv (s.data.toList.take n)).toList 0 cs w hb (by rw [hlen]; omega) (all_bv _)
 refine ⟨(),w',trivial,?_,hp.set i _ hO hw h3 h4 h5⟩
 have hmin : Nat.min s.size dl = n := hn.symm
 have hc : List.take n (Array.map (fun b => Value.int .u8 (b.toNat : Int)) s.data).toList = (bv (s.data.toList.take n)).toList := by
  simp [bv,List.map_take]
 simp [execOp,ho,resolve,invoke,builtin,opd_ok hs (holds_nil _) h1,opd_ok hs (holds_nil _) h2,Builtin.copy_,run_underlying' ht,run_sizeOf' hi,Builtin.lenOf,Builtin.firstCells,hmin,-Array.toList_map]
 rw [hc,hr]
 rfl
end
def wv (l : List Nat) : Array Value := (l.map fun (n : Nat) => Value.int .u32 (n : Int)).toArray
theorem wv_size (l : List Nat) : (wv l).size = l.length := by simp [wv]
theorem wv_get {l : List Nat} {n i : Nat} (hl : l.length = n) (h : i < n) : (wv l)[i]? = some (.int .u32 ((l.getD i 0 : Nat) : Int)) := by
 have h' : i < l.length := by omega
 simp [wv,List.getElem?_eq_getElem h']
theorem wv_set {l : List Nat} {i : Nat} {x : Int} (h0 : 0 ≤ x) : (wv l).setIfInBounds i (.int .u32 x) = wv (l.set i x.toNat) := by
 apply Array.ext'
 simp [wv,List.map_set]
 rw [show max x 0 = x by omega]
theorem all_wv (l : List Nat) : ∀ v ∈ (wv l).toList,one v = true := by
 intro v hv
 simp only [wv,List.mem_map] at hv
 obtain ⟨x,_,rfl⟩ := hv
 rfl
theorem load_words {P : Program} {w : World} {b off n : Nat} {ty : TypeId} {d : TypeDesc} {l : List Nat} (hu : P.underlying ty = some d) (hd : (match d with | .struct _ | .array _ _ => true | _ => false) = true) (hi : (P.info? ty).map (·.size) = some n) (hl : l.length = n)
  (h : ∀ j,j < n → w.cell? ⟨b,off + j,none⟩ = some (.int .u32 ((l.getD j 0 : Nat) : Int))) : (loadVar ty ⟨b,off,none⟩).run P w = .ok (.agg (wv l)) w := by
 obtain ⟨inf,hinf,hs⟩ := Option.map_eq_some_iff.1 hi
 have h1 := run_loadCells (P := P) (w := w) (b := b) (off := off) (n := n) (fun j => .int .u32 ((l.getD j 0 : Nat) : Int)) h
 have h2 : ((List.range n).map fun j => Value.int .u32 ((l.getD j 0 : Nat) : Int)).toArray = wv l := by
  apply Array.ext'
  simp only [wv]
  apply List.ext_getElem?
  intro i
  by_cases hi : i < n
  ·have hi' : i < l.length := by omega
   simp [hi,List.getElem?_eq_getElem hi']
  ·have hi' : l.length ≤ i := by omega
   simp [hi,List.getElem?_eq_none hi']
 rw [h2] at h1
 have h3 : (isAgg ty).run P w = .ok true w := by
  simp only [isAgg,Sem.run_bind,run_underlying' hu,Result.andThen_ok]
  cases d <;> simp_all
 have h4 : (sizeOf ty).run P w = .ok n w := by rw [run_sizeOf' hinf,hs]
 simp [loadVar,h3,h4,h1]
end K
end Go.Proofs.YtohjpggjgomgoaaGreatDoor
namespace Go.Proofs.YtohjpggjgomgoaaGreatDoor
namespace K
theorem run_extern {P : Program} {w w' : World} {f : Nat} {fn : Func} {args : Array Value} {e : Array Value → Sem Value} {v : Value} (hf : P.funcs[f]? = some fn) (hnm : (fn.name == "runtime.NumGoroutine") = false) (hb : fn.body.isNone = true)
  (h1 : (Extern.findNext fn).isNone = true) (h2 : Extern.find fn = some e) (hr : (e args).run P w = .ok v w') : (callFunc f args).run P w = .ok (.value v) w' := by
 have h1' : Extern.findNext fn = none := Option.isNone_iff_eq_none.1 h1
 unfold callFunc
 simp only [Sem.run_bind,program,Sem.run,Result.andThen_ok,hf,hnm,hb,Bool.false_eq_true,if_false,if_true,mark,h1',h2]
 rw [hr]
 rfl
theorem Eff.callE {C : Cx} {R O : List (Nat × Obj)} {Γ : Env} {o : Oper} {f : FuncId} {fn : Func} {xs : List Operand} {tys : Array TypeId} {vs : List Value} (v : Value) {e : Array Value → Sem Value} (ho : o.op = .call ⟨.value (.func f),xs.toArray,tys⟩) (hf : C.P.funcs[f]? = some fn)
  (hnm : (fn.name == "runtime.NumGoroutine") = false) (hb : fn.body.isNone = true) (h1 : (Extern.findNext fn).isNone = true) (h2 : Extern.find fn = some e) (hx : opds Γ xs = some vs)
  (h : ∀ w,HP C.w0 C.M R O w → (e vs.toArray).run C.P w = .ok v w) : Eff C R O Γ o Unit (fun _ => v) (fun _ => O) (fun _ => True) :=
 Eff.of_run fun a w hs hp => ⟨(),w,trivial,by
  have hargs := opds_ok hs hx
  have hc := run_extern hf hnm hb h1 h2 (h w hp)
  simp [execOp,ho,resolve,Deferred.ofValue,Act.eval,invoke,hargs,hc],hp⟩
end K
end Go.Proofs.YtohjpggjgomgoaaGreatDoor
namespace Go.Proofs.YtohjpggjgomgoaaGreatDoor
namespace K
section
variable {w0 w w' : World} {M : List Nat} {R O : List (Nat × Obj)}
theorem HP.ofL {A : List (Nat × Obj)} (hA : Has w A) (hd : (A.map (·.1)).Nodup) (hR : Has w R) (hn : ∀ e ∈ R,e.1 ∉ A.map (·.1)) : HP w (A.map (·.1)) R A w :=
 ⟨Ext.refl _ _,hR,fun e he => ⟨lt_of_get (hR e he),hn e he⟩,hA,hd,fun e he => .inr (List.mem_map.2 ⟨e,he,rfl⟩)⟩
theorem nodup_left {A T : List (Nat × Obj)} (h : ((A ++ T).map (·.1)).Nodup) : (A.map (·.1)).Nodup := by
 rw [List.map_append] at h; exact (List.nodup_append.1 h).1
theorem HP.swap {A A' T R' : List (Nat × Obj)} (h : HP w0 M R (A ++ T) w) (h' : HP w (A.map (·.1)) R' A' w') : HP w0 M R (A' ++ T) w' := by
 have hM0 : ∀ k ∈ A.map (·.1),k < w0.heap.size → k ∈ M := by
  intro k hk hlt
  obtain ⟨e,he,rfl⟩ := List.mem_map.1 hk
  rcases h.mine e (List.mem_append_left _ he) with h1 | h1
  ·omega
  ·exact h1
 have hnd := h.dist
 rw [List.map_append] at hnd
 have hdis : ∀ e ∈ T,e.1 ∉ A.map (·.1) := fun e he hm => (List.nodup_append.1 hnd).2.2 _ hm _ (List.mem_map.2 ⟨e,he,rfl⟩) rfl
 have hT : ∀ e ∈ T,w.heap[e.1]? = some e.2 := fun e he => h.own e (List.mem_append_right A he)
 refine ⟨h.ext.trans h'.ext hM0,fun e he => ?_,h.rod,fun e he => ?_,?_,fun e he => ?_⟩
 ·have hr := h.ro e he
  rw [h'.ext.block e.1 (lt_of_get hr) (fun hm => (h.rod e he).2 (hM0 _ hm (h.rod e he).1))]; exact hr
 ·rcases List.mem_append.1 he with he | he
  ·exact h'.own e he
  ·rw [h'.ext.block e.1 (lt_of_get (hT e he)) (hdis e he)]; exact hT e he
 ·rw [List.map_append]
  refine List.nodup_append.2 ⟨h'.dist,(List.nodup_append.1 hnd).2.1,?_⟩
  intro a ha b hb hab
  subst hab
  obtain ⟨e,he,rfl⟩ := List.mem_map.1 ha
  obtain ⟨e2,he2,hx⟩ := List.mem_map.1 hb
  rcases h'.mine e he with h1 | h1
  ·have := lt_of_get (hT e2 he2)
   have hx' : e2.1 = e.1 := hx
   omega
  ·exact hdis e2 he2 ((show e2.1 = e.1 from hx) ▸ h1)
 ·rcases List.mem_append.1 he with he | he
  ·rcases h'.mine e he with h1 | h1
   ·exact .inl (Nat.le_trans h.ext.size h1)
   ·obtain ⟨e2,he2,hx⟩ := List.mem_map.1 h1
    rw [← show e2.1 = e.1 from hx]; exact h.mine e2 (List.mem_append_left _ he2)
  ·exact h.mine e (List.mem_append_right _ he)
end
section
variable {C : Cx} {R O : List (Nat × Obj)} {Γ : Env} {op : Oper}
theorem Eff.callH {f : FuncId} {fn : Func} {c : Code} {xs : List Operand} {tys : Array TypeId} {vs : List Value} {ι : Type} (V : ι → Value) (A : List (Nat × Obj)) (A' : ι → List (Nat × Obj)) (F : ι → Prop) (Fl T : List (Nat × Obj)) (hO : O = Fl ++ (A ++ T))
  (ho : op.op = .call ⟨.value (.func f),xs.toArray,tys⟩) (hf : C.P.funcs[f]? = some fn) (hnm : (fn.name == "runtime.NumGoroutine") = false) (hb : fn.body = some c) (hx : opds Γ xs = some vs)
  (h : ∀ w,HP C.w0 C.M R O w → Has w A → (A.map (·.1)).Nodup → Calls C.P f vs.toArray w fun e w' => ∃ x,F x ∧ e = .returned (V x) ∧ ∃ R1,HP w (A.map (·.1)) R1 (A' x) w') :
  Eff C R O Γ op ι V (fun x => Fl ++ (A' x ++ T)) F :=
 Eff.call ho hf hnm hb hx fun w hp => by
  have hp1 : HP C.w0 C.M R (A ++ (Fl ++ T)) w := hp.perm (by rw [hO]; exact List.perm_append_comm_assoc _ _ _)
  refine (h w hp (fun e he => hp1.own e (List.mem_append_left _ he)) (nodup_left hp1.dist)).mono ?_
  rintro e w' ⟨x,hF,he,R1,hp'⟩
  exact ⟨x,hF,he,(hp1.swap hp').perm (List.perm_append_comm_assoc _ _ _)⟩
abbrev Bd := Value × Own
def bl (T E b : Nat) (l : List UInt8) (B : Bd) : List (Nat × Obj) := (b,.cells #[B.1,.slice B.2.a l.length B.2.c] T (0,0)) :: B.2.o E (bv l).toList
structure BdOk (b : Nat) (l : List UInt8) (B : Bd) : Prop where
 ptr : B.1 = .pointer none ∨ B.1 = .pointer (some ⟨b,0,none⟩)
 own : OwnOk B.2 1 l.length (bv l).toList
 pos : ∀ p,B.2 = some p → 0 < p.2.1
def bd0 : Bd := (.pointer none,none)
theorem bd0_ok (b : Nat) : BdOk b [] bd0 := ⟨.inl rfl,OwnOk.none 1,fun _ h => by cases h⟩
theorem bl_start {T E b : Nat} {l : List UInt8} {B : Bd} {w : World} {R : List (Nat × Obj)} (hh : Has w (bl T E b l B)) (hd : ((bl T E b l B).map (·.1)).Nodup) (hR : Has w R) (hn : ∀ e ∈ R,e.1 ∉ (bl T E b l B).map (·.1)) :
  HP w ((bl T E b l B).map (·.1)) R ([(b,.cells #[B.1,.slice (Own.a B.2) l.length (Own.c B.2)] T (0,0))] ++ (Own.o E (bv l).toList B.2 ++ [])) w := by
 rw [List.append_nil]
 exact HP.ofL hh hd hR hn
theorem bl_end {T E b : Nat} {l : List UInt8} {B : Bd} {w0 w : World} {M : List Nat} {R : List (Nat × Obj)} (h : HP w0 M R ([(b,.cells #[B.1,.slice (Own.a B.2) l.length (Own.c B.2)] T (0,0))] ++ (Own.o E (bv l).toList B.2 ++ [])) w) : HP w0 M R (bl T E b l B) w := by
 rw [List.append_nil] at h
 exact h
theorem Eff.allocB {t : TypeId} (E : Nat) (Fl T : List (Nat × Obj)) (hO : O = Fl ++ T) (ho : op.op = .alloc t) (hz0 : (C.P.info? t).bind (·.zero) = some (.agg #[.pointer none,.slice none 0 0])) :
  Eff C R O Γ op Nat (fun b => .pointer (some ⟨b,0,none⟩)) (fun b => Fl ++ (bl t E b [] bd0 ++ T)) (fun b => C.w0.heap.size ≤ b ∧ b ∉ O.map (·.1)) :=
 (Eff.alloc ho hz0).perm (List.Perm.refl _) (fun b => by rw [hO]; exact List.perm_middle.symm)
theorem bv_list (l : List UInt8) : (bv l).toList = l.map fun b => Value.int .u8 b.toNat := rfl
theorem bv_app (a b : List UInt8) : (bv a).toList ++ (bv b).toList = (bv (a ++ b)).toList := by simp [bv_list]
theorem bv_len (l : List UInt8) : (bv l).toList.length = l.length := by simp [bv_list]
theorem strCells_bv (s : ByteArray) : Lib.strCells s = (bv s.data.toList).toList := rfl
theorem ba_len (s : ByteArray) : s.data.toList.length = s.size := by simp
theorem Eff.appendS {t u e : TypeId} {x1 x2 : Operand} (ho : op.op = .call ⟨.builtin .append,#[x1,x2],#[t,u]⟩) (ht : C.P.underlying t = some (.slice e)) (hu : C.P.underlying u = some .string) (hsz : (C.P.info? e).map (fun i => (i.size,i.bytes)) = some (1,1))
  (hz0 : (C.P.info? e).bind (·.zero) = some (.int .u8 0)) (own : Own) {n : Nat} {xs : List Value} (hok : OwnOk own 1 n xs) (hpos : ∀ p,own = some p → 0 < p.2.1) (h1 : opd Γ [] x1 = some (.slice own.a n own.c)) {s : ByteArray} (h2 : opd Γ [] x2 = some (.string s))
  (Fl T : List (Nat × Obj)) (hO : O = Fl ++ (own.o e xs ++ T)) (hroom : n + s.size ≤ 140737488355328) :
  Eff C R O Γ op Own (fun o => .slice o.a (n + s.size) o.c) (fun o => Fl ++ (o.o e (xs ++ (bv s.data.toList).toList) ++ T)) (fun o => OwnOk o 1 (n + s.size) (xs ++ (bv s.data.toList).toList) ∧ ∀ p,o = some p → 0 < p.2.1) := by
 have hperm : O.Perm (own.o e xs ++ (Fl ++ T)) := by rw [hO]; exact List.perm_append_comm_assoc _ _ _
 refine Eff.perm (O2 := own.o e xs ++ (Fl ++ T)) (O2' := fun o => o.o e (xs ++ (bv s.data.toList).toList) ++ (Fl ++ T)) ?_ hperm (fun x => List.perm_append_comm_assoc _ _ _)
 refine Eff.of_run fun a w hs hp => ?_
 obtain ⟨inf,hi,hse⟩ := Option.map_eq_some_iff.1 hsz
 obtain ⟨inf',hi',hz⟩ := Option.bind_eq_some_iff.1 hz0
 rw [hi] at hi'
 simp only [Option.some.injEq] at hi'
 subst hi'
 simp only [Prod.mk.injEq] at hse
 obtain ⟨hs1,hb1⟩ := hse
 have hxl : xs.length = n := by simpa using hok.len
 have hnl : (bv s.data.toList).toList.length = s.size := by rw [bv_len]; exact ba_len s
 have hlen : (xs ++ (bv s.data.toList).toList).length = (n + s.size) * 1 := by rw [List.length_append,hnl,hxl]; omega
 have hex : ∀ {v : Value} {w' : World},(Builtin.append_ #[t,u] op.type #[a.eval x1,a.eval x2]).run C.P w = .ok v w' → (execOp a.eval op).run C.P w = .ok (.value v) w' := by
  intro v w' h
  simp [execOp,ho,resolve,invoke,builtin,h]
 have e1 := opd_ok hs (holds_nil _) h1
 have e2 := opd_ok hs (holds_nil _) h2
 have fresh : ∀ (c : Nat),n + s.size ≤ c → 0 < c → HP C.w0 C.M R (Fl ++ T) w → HP C.w0 C.M R (Own.o e (xs ++ (bv s.data.toList).toList) (some (w.heap.size,c,(Builtin.zeroCells (Value.int .u8 0).cells (c - (n + s.size))).toList)) ++ (Fl ++ T)) (w.drew.alloc (.cells (xs.toArray ++ (bv s.data.toList).toList.toArray ++ Builtin.zeroCells (Value.int .u8 0).cells (c - (n + s.size))) e)) ∧
   (OwnOk (some (w.heap.size,c,(Builtin.zeroCells (Value.int .u8 0).cells (c - (n + s.size))).toList)) 1 (n + s.size) (xs ++ (bv s.data.toList).toList) ∧ ∀ p : Nat × Nat × List Value,some (w.heap.size,c,(Builtin.zeroCells (Value.int .u8 0).cells (c - (n + s.size))).toList) = some p → 0 < p.2.1) := by
  intro c hc hc0 hp1
  have hp2 := (hp1.calm (ext_drew w)).alloc (.cells (xs.toArray ++ (bv s.data.toList).toList.toArray ++ Builtin.zeroCells (Value.int .u8 0).cells (c - (n + s.size))) e (0,0))
  refine ⟨?_,⟨hlen,fun h => (by cases h),fun p hp' => ?_⟩,fun p hp' => ?_⟩
  ·have e3 : (xs.toArray ++ (bv s.data.toList).toList.toArray ++ Builtin.zeroCells (Value.int .u8 0).cells (c - (n + s.size))) = (xs ++ (bv s.data.toList).toList ++ (Builtin.zeroCells (Value.int .u8 0).cells (c - (n + s.size))).toList).toArray := by
    apply Array.ext'
    simp
   rw [e3] at hp2 ⊢
   exact hp2
  ·simp only [Option.some.injEq] at hp'
   subst hp'
   refine ⟨?_,hc⟩
   have hz1 : (Value.int .u8 0).cells.size = 1 := rfl
   simp only [Array.length_toList,zeroCells_size,hlen,hz1]
   omega
  ·simp only [Option.some.injEq] at hp'
   subst hp'
   exact hc0
 cases own with
 | none =>
  have hn := hok.nil rfl
  subst hn
  have hx : xs = [] := List.eq_nil_of_length_eq_zero hxl
  subst hx
  by_cases hm : s.size = 0
  ·have hnn : (bv s.data.toList).toList = [] := List.eq_nil_of_length_eq_zero (by rw [hnl]; exact hm)
   refine ⟨none,w,⟨by rw [hm,hnn]; exact OwnOk.none 1,fun _ h => by cases h⟩,hex ?_,?_⟩
   ·rw [e1,e2]
    have hf := Lib.run_firstCells_string (P := C.P) w 1 s
    rw [hm] at hf
    simp [Builtin.append_,run_underlying' ht,run_underlying' hu,sizeOf,typeInfo,hi,hs1,Builtin.lenOf,hm,hf,Own.a,Own.c]
   ·exact hp
  ·obtain ⟨f1,f2⟩ := fresh (grownCap w s.size 0 e) (by have := grownCap_ge w s.size 0 e; omega) (by have := grownCap_ge w s.size 0 e; omega) hp
   refine ⟨some (w.heap.size,grownCap w s.size 0 e,_),_,f2,hex ?_,f1⟩
   rw [e1,e2]
   have hr := run_append_nil_string (P := C.P) w t u op.type e inf (.int .u8 0) ht hu hi hz s om om (by rw [hb1]; omega)
   have e3 : (s.data.map fun b => Value.int .u8 b.toNat) = (bv s.data.toList).toList.toArray := by
    apply Array.ext'
    simp [bv_list]
   rw [e3] at hr
   simp only [Own.a,Own.c,Nat.zero_add,Array.empty_append] at hr ⊢
   exact hr
 | some p =>
  obtain ⟨b,cap,junk⟩ := p
  obtain ⟨hj,hnc⟩ := hok.some _ rfl
  have hp0 := hpos _ rfl
  simp only at hj hnc hp0
  have hget : (Own.o e xs (some (b,cap,junk)) ++ (Fl ++ T))[0]? = some (b,.cells (xs ++ junk).toArray e (0,0)) := rfl
  have hb := hp.own _ (List.mem_of_getElem? hget)
  have hp1 : HP C.w0 C.M R (Fl ++ T) w := hp.sub (List.sublist_append_right _ _)
  by_cases hr : n + s.size ≤ cap
  ·have hfit : n + s.size ≤ (xs ++ junk).toArray.size := by
    simp only [List.size_toArray,List.length_append]; omega
   have hrun := Lib.run_append_room_string (P := C.P) w t u op.type e inf ht hu hi hs1 b n cap (xs ++ junk).toArray hb s hr hfit
   have e3 : ((xs ++ junk).toArray.toList.take n ++ Lib.strCells s ++ (xs ++ junk).toArray.toList.drop (n + s.size)) = xs ++ (bv s.data.toList).toList ++ junk.drop s.size := by
    rw [strCells_bv,← hxl]
    simp [List.drop_append,List.drop_eq_nil_of_le (show xs.length ≤ xs.length + s.size by omega)]
   rw [e3] at hrun
   refine ⟨some (b,cap,junk.drop s.size),_,⟨⟨hlen,fun h => (by cases h),fun p hp' => ?_⟩,fun p hp' => ?_⟩,hex (by rw [e1,e2]; exact hrun),?_⟩
   ·simp only [Option.some.injEq] at hp'
    subst hp'
    refine ⟨?_,hr⟩
    simp only [List.size_toArray,List.length_append] at hfit
    simp only [List.length_append,List.length_drop,hnl]
    omega
   ·simp only [Option.some.injEq] at hp'
    subst hp'
    exact hp0
   ·exact hp.set 0 (.cells (xs ++ (bv s.data.toList).toList ++ junk.drop s.size).toArray e (0,0)) hget (setRow_get hb) rfl rfl rfl
  ·obtain ⟨f1,f2⟩ := fresh (grownCap w (n + s.size) cap e) (grownCap_ge w (n + s.size) cap e) (by have := grownCap_ge w (n + s.size) cap e; omega) hp1
   have holds : ∀ j v,xs[j]? = some v → w.cell? (Addr.add ⟨b,0,none⟩ j) = some v := fun j v hjv => by
    rw [add_none,Nat.zero_add,cell_cells hb]
    have hlt : j < xs.length := (List.getElem?_eq_some_iff.1 hjv).1
    simp [List.getElem?_append_left hlt,hjv]
   have hrun := Lib.run_append_grow_string (P := C.P) w t u op.type e inf (.int .u8 0) ht hu hi hz ⟨b,0,none⟩ n cap xs (by rw [hs1]; simpa using hxl) holds s om om (by rw [hb1]; exact growslice_fits om om)
   exact ⟨some (w.heap.size,grownCap w (n + s.size) cap e,_),_,f2,hex (by rw [e1,e2]; exact hrun),f1⟩
theorem Eff.appendP {t e : TypeId} {x1 x2 : Operand} (ho : op.op = .call ⟨.builtin .append,#[x1,x2],#[t,t]⟩) (ht : C.P.underlying t = some (.slice e)) (hsz : (C.P.info? e).map (fun i => (i.size,i.bytes)) = some (1,1))
  {z : Value} (hz0 : (C.P.info? e).bind (·.zero) = some z) (hzs : z.cells.size = 1) (own : Own) {n : Nat} {xs : List Value} (hok : OwnOk own 1 n xs) (h1 : opd Γ [] x1 = some (.slice own.a n own.c))
  {b2 off2 m c2 : Nat} (h2 : opd Γ [] x2 = some (.slice (some ⟨b2,off2,none⟩) m c2)) (news : List Value) (hl : news.length = m * 1) (hone : ∀ v ∈ news,one v = true) (Fl T : List (Nat × Obj)) (hO : O = Fl ++ (own.o e xs ++ T))
  (hsrc : ∀ w,HP C.w0 C.M R O w → ∀ j v,news[j]? = some v → w.cell? ⟨b2,off2 + j,none⟩ = some v) (hroom : (n + m) * 1 ≤ 140737488355328) (h63 : n + m ≤ 9223372036854775807) (h0 : 0 < n + m) :
  Eff C R O Γ op Own (fun o => .slice o.a (n + m) o.c) (fun o => Fl ++ (o.o e (xs ++ news) ++ T)) (fun o => OwnOk o 1 (n + m) (xs ++ news) ∧ ∀ p,o = some p → 0 < p.2.1) :=
 fun a w hs hp Kt Q hK => Eff.appendF ho 1 1 ht hsz hz0 hzs own hok h1 h2 news hl hone Fl T hO hsrc hroom h63 a w hs hp Kt Q (fun x w' hF hp' => hK x w' ⟨hF,fun p hpx => Nat.lt_of_lt_of_le h0 (hF.some p hpx).2⟩ hp')
theorem Eff.sliceData {t : TypeId} {x : Operand} (ho : op.op = .call ⟨.builtin .unsafeSliceData,#[x],#[t]⟩) (own : Own) (hpos : ∀ p,own = some p → 0 < p.2.1) {n : Nat} (hx : opd Γ [] x = some (.slice own.a n own.c)) :
  Eff C R O Γ op Unit (fun _ => .pointer own.a) (fun _ => O) (fun _ => True) := by
 refine Eff.of_run fun a w hs hp => ⟨(),w,trivial,?_,hp⟩
 have e1 := opd_ok hs (holds_nil _) hx
 have hrun : (Builtin.unsafeSliceData_ #[t] op.type #[.slice own.a n own.c]).run C.P w = .ok (.pointer own.a) w := by
  cases own with
  | none => rfl
  | some p =>
   have hp0 := hpos p rfl
   obtain ⟨b,cap,junk⟩ := p
   have hc : ¬ cap = 0 := by simp only at hp0; omega
   simp only [Own.a,Own.c]
   refine Eq.trans (b := Sem.run C.P (if cap ≠ 0 then pure (.pointer (some ⟨b,0,none⟩)) else _) w) rfl ?_
   rw [if_pos hc]; rfl
 simp [execOp,ho,resolve,invoke,builtin,e1,hrun]
theorem liesAt_off {P : Program} {e : TypeId} (hc : P.cellsOf e = 1) (count off n : Nat) (hn : off + n ≤ count) : liesAt P P.depth e count off e n = true := by
 have hd : P.depth = (2 * (P.types.size + Made.depth) + 1) + 1 := rfl
 rw [hd]
 simp only [liesAt,Bool.or_eq_true]
 left
 rw [hd]
 simp [rowAt,hc,hn,sameLayout,Nat.mod_one]
theorem run_unsafeString {P : Program} {w : World} {pt it ty e : TypeId} (hp : P.underlying pt = some (.pointer e)) (hc : P.cellsOf e = 1) {g off cells : Nat} (hsh : w.shape? g = some (e,cells)) {l : List UInt8} (h0 : l ≠ []) (hn : off + l.length ≤ cells) (h63 : l.length ≤ 9223372036854775807)
  (hcell : ∀ j x,l[j]? = some x → w.cell? ((⟨g,off,none⟩ : Addr).add j) = some (.int .u8 x.toNat)) :
  (Builtin.unsafeString_ #[pt,it] ty #[.pointer (some ⟨g,off,none⟩),.int .i64 l.length]).run P w = .ok (.string ⟨l.toArray⟩) (w.freeze ⟨g,off,none⟩ l.length) := by
 have hl : l.length ≠ 0 := by simpa using h0
 have hlb := Lib.run_loadBytes (P := P) w l ⟨g,off,none⟩ .empty hcell
 have hlies := liesAt_off (P := P) hc (cells / P.cellsOf e) off l.length (by rw [hc]; simpa using hn)
 have h63' : ¬ (9223372036854775807 : Int) < (l.length : Int) := by omega
 refine Eq.trans (b := Sem.run P (Bind.bind (asInt (.int .i64 l.length)) _) w) rfl ?_
 have hmax : IntKind.i64.max = 9223372036854775807 := rfl
 have hneg : ¬ (l.length : Int) < 0 := by omega
 simp [asInt,asIntOf,hmax,h63',hneg,hl,variablesAt,hsh,elemOf,run_underlying' hp,hlies,hlb]
theorem ext_freeze (w : World) (b off n : Nat) : Ext [b] w (w.freeze ⟨b,off,none⟩ n) := by
 unfold World.freeze
 split
 ·exact Ext.refl _ _
 ·refine ⟨rfl,rfl,rfl,by simp,fun k hk hn => ?_⟩
  have : b ≠ k := fun e => hn (by simp [e])
  simp [Array.getElem?_modify,this]
theorem Eff.unsafeStr {pt it e : TypeId} {x y : Operand} (ho : op.op = .call ⟨.builtin .unsafeString,#[x,y],#[pt,it]⟩) (hpt : C.P.underlying pt = some (.pointer e)) (hc : C.P.cellsOf e = 1) (own : Own) {l : List UInt8} (hok : OwnOk own 1 l.length (bv l).toList)
  (hx : opd Γ [] x = some (.pointer own.a)) (hy : opd Γ [] y = some (.int .i64 l.length)) (Fl T : List (Nat × Obj)) (hO : O = Fl ++ (own.o e (bv l).toList ++ T)) (h63 : l.length ≤ 9223372036854775807) :
  Eff C R O Γ op Unit (fun _ => .string ⟨l.toArray⟩) (fun _ => Fl ++ T) (fun _ => True) := by
 refine Eff.of_run fun a w hs hp => ?_
 have e1 := opd_ok hs (holds_nil _) hx
 have e2 := opd_ok hs (holds_nil _) hy
 have hex : ∀ {v : Value} {w' : World},(Builtin.unsafeString_ #[pt,it] op.type #[a.eval x,a.eval y]).run C.P w = .ok v w' → (execOp a.eval op).run C.P w = .ok (.value v) w' := by
  intro v w' h
  simp [execOp,ho,resolve,invoke,builtin,h]
 have hperm : O.Perm (own.o e (bv l).toList ++ (Fl ++ T)) := by rw [hO]; exact List.perm_append_comm_assoc _ _ _
 have hp1 := hp.perm hperm
 have hsub : HP C.w0 C.M R (Fl ++ T) w := hp1.sub (List.sublist_append_right _ _)
 by_cases h0 : l = []
 ·subst h0
  exact ⟨(),w,trivial,hex (by rw [e1,e2]; exact Lib.run_unsafeString_none w pt it op.type own.a),hsub⟩
 ·obtain ⟨p,rfl⟩ := own_some hok (List.length_pos_iff.2 h0)
  obtain ⟨b,cap,junk⟩ := p
  have hb := hp1.own (b,.cells ((bv l).toList ++ junk).toArray e (0,0)) (List.mem_cons_self ..)
  simp only at hb
  have hsh : w.shape? b = some (e,((bv l).toList ++ junk).length) := by simp [World.shape?,hb]
  have hcell : ∀ j x,l[j]? = some x → w.cell? ((⟨b,0,none⟩ : Addr).add j) = some (.int .u8 x.toNat) := fun j x hj => by
   rw [add_none,Nat.zero_add,cell_cells hb]
   have hlt : j < l.length := (List.getElem?_eq_some_iff.1 hj).1
   simp [bv_list,List.getElem?_append_left (show j < (l.map fun b => Value.int .u8 b.toNat).length by simpa using hlt),hj]
  have hrun := run_unsafeString (P := C.P) (w := w) (it := it) (ty := op.type) hpt hc hsh h0 (off := 0) (by rw [List.length_append,bv_len]; omega) h63 hcell
  refine ⟨(),_,trivial,hex (by rw [e1,e2]; exact hrun),?_⟩
  refine hp1.call (ext_freeze w b 0 l.length) (Fl ++ T) (List.sublist_append_right _ _) (fun k hk => ?_) (fun x hx hm => ?_)
  ·simp only [List.mem_cons,List.not_mem_nil,or_false] at hk
   subst hk
   exact List.mem_map.2 ⟨_,List.mem_append_left _ (List.mem_cons_self ..),rfl⟩
  ·simp only [List.mem_cons,List.not_mem_nil,or_false] at hm
   have hd := hp1.dist
   rw [List.map_append] at hd
   exact (List.nodup_append.1 hd).2.2 b (by simp [Own.o]) x.1 (List.mem_map.2 ⟨x,hx,rfl⟩) hm.symm
theorem Eff.conv {src dst : TypeId} {x : Operand} {u : Value} (v : Value) (ho : op.op = .convert src dst x) (hx : opd Γ [] x = some u) (h : ∀ w,HP C.w0 C.M R O w → (convert src dst u).run C.P w = .ok v w) : Eff C R O Γ op Unit (fun _ => v) (fun _ => O) (fun _ => True) :=
 Eff.of_run fun a w hs hp => ⟨(),w,trivial,by simp [execOp,ho,opd_ok hs (holds_nil _) hx,h w hp],hp⟩
theorem Eff.neqSame {ty ty' e : TypeId} {x y : Operand} {p : Addr} (ho : op.op = .binOp .neq ty x y ty') (hx : opd Γ [] x = some (.pointer (some p))) (hy : opd Γ [] y = some (.pointer (some p))) (hu : C.P.underlying ty = some (.pointer e)) (hi : (C.P.info? e).isSome = true) :
  Eff C R O Γ op Unit (fun _ => .bool false) (fun _ => O) (fun _ => True) :=
 Eff.of_run fun a w hs hp => ⟨(),w,trivial,by
  obtain ⟨j,hj⟩ := Option.isSome_iff_exists.1 hi
  have hr := Lib.run_neq_ptr_same (P := C.P) w p hu hj
  have e1 := opd_ok hs (holds_nil _) hx
  have e2 := opd_ok hs (holds_nil _) hy
  simp [execOp,ho,e1,e2,hr,eqGuard],hp⟩
theorem shape_of {w : World} {b : Nat} {cs : Array Value} {t : TypeId} {fr : Nat × Nat} (h : w.heap[b]? = some (.cells cs t fr)) : w.shape? b = some (t,cs.size) := by simp [World.shape?,h]
theorem toUnsafe {P : Program} {w : World} {src dst t : TypeId} {b : Nat} {cs : Array Value} {fr : Nat × Nat} (hs : P.underlying src = some (.pointer t)) (hd : P.underlying dst = some .unsafePointer) (ht : (P.info? t).map (·.size) = some 2) (hb : w.heap[b]? = some (.cells cs t fr)) (h2 : cs.size = 2) :
  (convert src dst (.pointer (some ⟨b,0,none⟩))).run P w = .ok (.pointer (some ⟨b,0,none⟩)) w := by
 obtain ⟨j,hj,hj2⟩ := Option.map_eq_some_iff.1 ht
 exact Lib.run_to_unsafe w ⟨b,0,none⟩ hs hd hj (by rw [hj2]; decide) (shape_of hb) (by show 0 < cs.size; omega)
theorem fromUnsafe {P : Program} {w : World} {src dst t : TypeId} {b : Nat} {cs : Array Value} {fr : Nat × Nat} (hs : P.underlying src = some .unsafePointer) (hd : P.underlying dst = some (.pointer t)) (ht : (P.info? t).map (·.size) = some 2) (hl : liesAt P P.depth t (2 / P.cellsOf t) 0 t 1 = true) (hb : w.heap[b]? = some (.cells cs t fr)) (h2 : cs.size = 2) :
  (convert src dst (.pointer (some ⟨b,0,none⟩))).run P w = .ok (.pointer (some ⟨b,0,none⟩)) w := by
 obtain ⟨j,hj,hj2⟩ := Option.map_eq_some_iff.1 ht
 exact Lib.run_from_unsafe w ⟨b,0,none⟩ hs hd hj (shape_of hb) (by rw [h2]; exact hl)
end
end K
end Go.Proofs.YtohjpggjgomgoaaGreatDoor
namespace Go.Proofs.YtohjpggjgomgoaaGreatDoor
namespace K
set_option linter.unusedVariables false
def Q0R (Z : Exit → World → Prop) : Exit → Act → World → Prop
 | .normal,_,w => Z .normal w
 | .ret,_,w => Z .ret w
 | .exit id,_,w => Z (.exit id) w
 | _,_,_ => False
def Cx.rnd (P : Program) (fn : Func) (l : Nat) (w0 : World) (M : List Nat) (Z : Exit → World → Prop) : Cx where
 P := P
 fn := fn
 post := fun _ _ => False
 w0 := w0
 M := M
 ro := some l
 D := []
 Q0 := Q0R Z
 po := fun c a w d v h => h.elim
 lo := fun ⟨a,w,h⟩ => h.elim
 rt := fun _ a w v _ _ h => h.elim
section
variable {P : Program} {fn : Func} {l : Nat} {w0 : World} {M : List Nat} {Z : Exit → World → Prop} {R O : List (Nat × Obj)} {Γ Γ' : Env} {ks ks' : List KI} {ops : Array Oper}
end
section
variable {C : Cx} {R O : List (Nat × Obj)} {Γ : Env} {ks : List KI} {ops : Array Oper}
end
end K
end Go.Proofs.YtohjpggjgomgoaaGreatDoor
namespace Go.Proofs.YtohjpggjgomgoaaGreatDoor
namespace K
set_option linter.unusedVariables false
section
variable {w0 w w' : World} {M : List Nat} {R O : List (Nat × Obj)}
theorem HP.away (h : HP w0 M R O w) {e f : Nat × Obj} (he : e ∈ O) (hf : f ∈ R) : e.1 ≠ f.1 := by
 intro hx
 have h1 := h.rod f hf
 rcases h.mine e he with h2 | h2
 ·omega
 ·rw [hx] at h2; exact h1.2 h2
end
section
variable {P : Program} {fn : Func} {post : Ending → World → Prop} {w0 : World} {M D : List Nat} {R O : List (Nat × Obj)} {Γ : Env} {ks ks' : List KI}
end
section
variable {P : Program} {fn : Func} {post : Ending → World → Prop} {w0 : World} {M D : List Nat} {R O : List (Nat × Obj)} {Γ : Env} {ks ks' : List KI}
end
theorem Cfg.permO {C : Cx} {R O O' : List (Nat × Obj)} {Γ : Env} {ks : List KI} (h : O.Perm O') (hc : Cfg C R O' Γ ks) : Cfg C R O Γ ks := fun a w hs hp => hc a w hs (hp.perm h)
end K
end Go.Proofs.YtohjpggjgomgoaaGreatDoor
namespace Go.Proofs.YtohjpggjgomgoaaGreatDoor
namespace K
theorem spl_at {L A B T vs : List Value} {off : Nat} (hL : L = A ++ B ++ T) (hA : A.length = off) (hB : vs.length = B.length) : spl L.toArray off vs = (A ++ vs ++ T).toArray := by
 subst hL; subst hA
 exact spl_list A B T vs hB
section
variable {C : Cx} {R O : List (Nat × Obj)} {Γ : Env} {op : Oper}
theorem Eff.clearC {t e : TypeId} {x : Operand} (ho : op.op = .call ⟨.builtin .clear,#[x],#[t]⟩) (ht : C.P.underlying t = some (.slice e)) {z : Value} (hz0 : (C.P.info? e).bind (·.zero) = some z) {b off n c : Nat} (h1 : opd Γ [] x = some (.slice (some ⟨b,off,none⟩) n c)) (hn : 0 < n)
  (i : Nat) {cs : Array Value} {te : TypeId} (hO : O[i]? = some (b,.cells cs te (0,0))) (hone : ∀ v ∈ (Builtin.zeroCells z.cells n).toList,one v = true) (hoff : off + n * z.cells.size ≤ cs.size) :
  Eff C R O Γ op Unit (fun _ => .tuple #[]) (fun _ => O.set i (b,.cells (spl cs off (Builtin.zeroCells z.cells n).toList) te (0,0))) (fun _ => True) := by
 refine Eff.of_run fun a w hs hp => ?_
 obtain ⟨inf,hi,hz⟩ := Option.bind_eq_some_iff.1 hz0
 have hb := hp.own _ (List.mem_of_getElem? hO)
 obtain ⟨w',hr,hw,h3,h4,h5⟩ := run_storeCells (P := C.P) (off := off) (Builtin.zeroCells z.cells n).toList 0 cs w hb (by rw [Array.length_toList,zeroCells_size]; omega) hone
 refine ⟨(),w',trivial,?_,hp.set i _ hO hw h3 h4 h5⟩
 have hzv : (zeroValue e).run C.P w = .ok z w := by simp [zeroValue,typeInfo,program,Sem.run,hi,hz]
 have hr' : (Builtin.clear_ #[t] op.type #[.slice (some ⟨b,off,none⟩) n c]).run C.P w = .ok (.tuple #[]) w' := by
  obtain ⟨m,rfl⟩ : ∃ m,n = m + 1 := ⟨n - 1,by omega⟩
  simp only at hr
  simp [Builtin.clear_,run_underlying' ht,hzv,hr]
 simp [execOp,ho,resolve,invoke,builtin,opd_ok hs (holds_nil _) h1,hr']
theorem Eff.callVC {x : Operand} {f : FuncId} {fn : Func} {c : Code} {xs : List Operand} {tys : Array TypeId} (caps : List Value) (ho : op.op = .call ⟨.value x,xs.toArray,tys⟩) (hxv : opd Γ [] x = some (.func (.func f) #[] caps.toArray)) (hf : C.P.funcs[f]? = some fn) (hnm : (fn.name == "runtime.NumGoroutine") = false) (hb : fn.body = some c)
  {vs : List Value} (hx : opds Γ xs = some vs) {ι : Type} {V : ι → Value} {O' : ι → List (Nat × Obj)} {F : ι → Prop}
  (h : ∀ w,HP C.w0 C.M R O w → Calls C.P f (vs ++ caps).toArray w fun e w' => ∃ x,F x ∧ e = .returned (V x) ∧ HP C.w0 C.M R (O' x) w') : Eff C R O Γ op ι V O' F := by
 intro a w hs hp Kt Q hK
 have hargs := opds_ok hs hx
 have hv := opd_ok hs (holds_nil _) hxv
 have hrun : (execOp a.eval op).run C.P w = .ok (.enter f (vs ++ caps).toArray) w := by
  simp [execOp,ho,resolve,Deferred.ofValue,hv,invoke,hargs,run_callFunc hf hnm hb]
 unfold Oper.wp
 rw [hrun]
 refine (h w hp).mono ?_
 rintro e w' ⟨x,hx,rfl,hp'⟩
 exact hK x w' hx hp'
theorem Eff.callAVC {x : Operand} {f : FuncId} {fn : Func} {c : Code} {xs : List Operand} {tys : Array TypeId} {vs : List Value} (v : Value) (caps : List Value) (ho : op.op = .call ⟨.value x,xs.toArray,tys⟩) (hxv : opd Γ [] x = some (.func (.func f) #[] caps.toArray)) (hf : C.P.funcs[f]? = some fn)
  (hnm : (fn.name == "runtime.NumGoroutine") = false) (hb : fn.body = some c) (hx : opds Γ xs = some vs)
  (h : ∀ w,HP C.w0 C.M R O w → Calls C.P f (vs ++ caps).toArray w fun e w' => e = .returned v ∧ Ext [] w w') : Eff C R O Γ op Unit (fun _ => v) (fun _ => O) (fun _ => True) :=
 Eff.callVC caps ho hxv hf hnm hb hx fun w hp => (h w hp).mono fun _ _ hh => ⟨(),trivial,hh.1,hp.calm hh.2⟩
end
theorem load_list {P : Program} {w : World} {b off n : Nat} {ty : TypeId} {d : TypeDesc} {vs : List Value} (hu : P.underlying ty = some d) (hd : (match d with | .struct _ | .array _ _ => true | _ => false) = true) (hi : (P.info? ty).map (·.size) = some n) (hl : vs.length = n)
  (h : ∀ j v,vs[j]? = some v → w.cell? ⟨b,off + j,none⟩ = some v) : (loadVar ty ⟨b,off,none⟩).run P w = .ok (.agg vs.toArray) w := by
 obtain ⟨inf,hinf,hs⟩ := Option.map_eq_some_iff.1 hi
 have h1 := run_loadCells_list (P := P) w ⟨b,off,none⟩ vs (fun j v hj => by rw [add_none]; exact h j v hj)
 rw [hl] at h1
 have h3 : (isAgg ty).run P w = .ok true w := by
  simp only [isAgg,Sem.run_bind,run_underlying' hu,Result.andThen_ok]
  cases d <;> simp_all
 have h4 : (sizeOf ty).run P w = .ok n w := by rw [run_sizeOf' hinf,hs]
 simp [loadVar,h3,h4,h1]
theorem Eff.callTwo {C : Cx} {R O : List (Nat × Obj)} {Γ : Env} {op : Oper} {f : FuncId} {fn : Func} {c : Code} {xs : List Operand} {tys : Array TypeId} {vs : List Value} {ι : Type} (V : ι → Value) (A1 A2 : ι → List (Nat × Obj)) (F : ι → Prop) (Fl T : List (Nat × Obj)) (hO : O = Fl ++ T)
  (ho : op.op = .call ⟨.value (.func f),xs.toArray,tys⟩) (hf : C.P.funcs[f]? = some fn) (hnm : (fn.name == "runtime.NumGoroutine") = false) (hb : fn.body = some c) (hx : opds Γ xs = some vs)
  (h : ∀ w,HP C.w0 C.M R O w → Calls C.P f vs.toArray w fun e w' => ∃ x,F x ∧ e = .returned (V x) ∧ ∃ R1,HP w [] R1 (A1 x ++ (A2 x ++ [])) w') :
  Eff C R O Γ op ι V (fun x => Fl ++ (A1 x ++ (A2 x ++ T))) F := by
 have h1 := Eff.callH (op := op) V [] (fun x => A1 x ++ (A2 x ++ [])) F Fl T hO ho hf hnm hb hx (fun w hp _ _ => h w hp)
 have e : (fun x => Fl ++ (A1 x ++ (A2 x ++ T))) = fun x => Fl ++ ((A1 x ++ (A2 x ++ [])) ++ T) := by
  funext x; rw [List.append_nil,List.append_assoc]
 rw [e]; exact h1
end K
end Go.Proofs.YtohjpggjgomgoaaGreatDoor
namespace Go.Proofs.YtohjpggjgomgoaaGreatDoor
namespace K
open Go.MapKept
structure MapOk (es : Array MapEntry) (ck : Nat) (W : List (Int × Value)) : Prop where
 rel : es.toList.map (fun e => (e.key,e.val)) = W.map fun p => (Value.int .i64 p.1,p.2)
 st : Stamped es ck
def mfind (k : Int) : List (Int × Value) → Nat → Option (Nat × Value)
 | [],_ => none
 | p :: W,i => if k = p.1 then some (i,p.2) else mfind k W (i + 1)
def mget (W : List (Int × Value)) (k : Int) : Option Value := match W with
 | [] => none
 | p :: W => if k = p.1 then some p.2 else mget W k
def mset (W : List (Int × Value)) (k : Int) (v : Value) : List (Int × Value) := match W with
 | [] => [(k,v)]
 | p :: W => if k = p.1 then (k,v) :: W else p :: mset W k v
theorem mfind_get (k : Int) : ∀ (W : List (Int × Value)) (i : Nat),(mfind k W i).map (·.2) = mget W k
 | [],_ => rfl
 | p :: W,i => by
  unfold mfind mget
  split
  ·rfl
  ·exact mfind_get k W (i + 1)
theorem findNow_of (q : IntKind) (k : Int) : ∀ (es : List MapEntry) (W : List (Int × Value)) (i : Nat),es.map (fun e => (e.key,e.val)) = W.map (fun p => (Value.int .i64 p.1,p.2)) → Instr.findNow (.int q) (.int .i64 k) es i = some (mfind k W i)
 | [],[],_,_ => rfl
 | [],_ :: _,_,h => by simp at h
 | _ :: _,[],_,h => by simp at h
 | e :: es,p :: W,i,h => by
  simp only [List.map_cons,List.cons.injEq,Prod.mk.injEq] at h
  obtain ⟨⟨h1,h2⟩,h3⟩ := h
  unfold Instr.findNow mfind
  rw [h1]
  simp only [Instr.sameNow,if_true]
  by_cases hk : k = p.1
  ·subst hk; simp [h2]
  ·rw [if_neg hk,show (k == p.1) = false from beq_eq_false_iff_ne.2 hk]
   exact findNow_of q k es W (i + 1) h3
theorem mfind_some {k : Int} : ∀ {W : List (Int × Value)} {i j : Nat} {v : Value},mfind k W i = some (j,v) → i ≤ j ∧ W[j - i]? = some (k,v)
 | [],_,_,_,h => by cases h
 | p :: W,i,j,v,h => by
  unfold mfind at h
  split at h
  ·rename_i hk
   simp only [Option.some.injEq,Prod.mk.injEq] at h
   obtain ⟨rfl,rfl⟩ := h
   refine ⟨Nat.le_refl _,?_⟩
   rw [Nat.sub_self,List.getElem?_cons_zero,hk]
  ·obtain ⟨h1,h2⟩ := mfind_some h
   refine ⟨by omega,?_⟩
   rw [show j - i = (j - (i + 1)) + 1 by omega,List.getElem?_cons_succ]; exact h2
theorem mfind_set {k : Int} (u : Value) : ∀ {W : List (Int × Value)} {i j : Nat} {v : Value},mfind k W i = some (j,v) → mset W k u = W.set (j - i) (k,u)
 | [],_,_,_,h => by cases h
 | p :: W,i,j,v,h => by
  unfold mfind at h
  unfold mset
  split at h
  ·rename_i hk
   simp only [Option.some.injEq,Prod.mk.injEq] at h
   obtain ⟨rfl,rfl⟩ := h
   rw [if_pos hk,Nat.sub_self,List.set_cons_zero]
  ·rename_i hk
   have h1 := (mfind_some h).1
   rw [if_neg hk,mfind_set u h,show j - i = (j - (i + 1)) + 1 by omega,List.set_cons_succ]
theorem mfind_none {k : Int} (u : Value) : ∀ {W : List (Int × Value)} {i : Nat},mfind k W i = none → mset W k u = W ++ [(k,u)] ∧ ∀ p ∈ W,p.1 ≠ k
 | [],_,_ => ⟨rfl,fun p h => by cases h⟩
 | p :: W,i,h => by
  unfold mfind at h
  unfold mset
  split at h
  ·cases h
  ·rename_i hk
   obtain ⟨h1,h2⟩ := mfind_none u h
   rw [if_neg hk,h1]
   refine ⟨rfl,fun q hq => ?_⟩
   rcases List.mem_cons.1 hq with rfl | hq
   ·exact fun e => hk e.symm
   ·exact h2 q hq
section
variable {P : Program} {w : World}
theorem int_key {q : IntKind} {k : Int} {kt : TypeId} (hd : P.underlying kt = some (.int q)) (e : Bool) : (Instr.checkKey e 10000 kt (.int .i64 k)).run P w = .ok () w := by
 show (Instr.checkKey e (9999 + 1) kt (.int .i64 k)).run P w = _
 unfold Instr.checkKey
 simp only [Sem.run_bind,run_underlying' hd,Result.andThen_ok]; rfl
theorem int_find {q : IntKind} {k : Int} {kt : TypeId} (hd : P.underlying kt = some (.int q)) {es : Array MapEntry} {ck : Nat} {W : List (Int × Value)} (h : MapOk es ck W) : (Instr.findKey kt (.int .i64 k) es.toList).run P w = .ok (mfind k W 0) w := by
 unfold Instr.findKey
 simp only [Sem.run_bind,run_underlying' hd,Result.andThen_ok,findNow_of q k _ _ 0 h.rel]; rfl
theorem run_lookup {t kt e : TypeId} {q : IntKind} {k : Int} {r : Nat} {es : Array MapEntry} {ck : Nat} {W : List (Int × Value)} {z : Value} (hm : P.underlying t = some (.map kt e)) (hd : P.underlying kt = some (.int q)) (hz0 : (P.info? e).bind (·.zero) = some z) (hb : w.heap[r]? = some (.map es ck)) (h : MapOk es ck W) (ok : Bool) :
  (Instr.lookup t (.map (some r)) (.int .i64 k) ok).run P w = .ok (if ok then .tuple #[(mget W k).getD z,.bool (mget W k).isSome] else (mget W k).getD z) w := by
 obtain ⟨inf,hi,hz⟩ := Option.bind_eq_some_iff.1 hz0
 have hzv : (zeroValue e).run P w = .ok z w := by simp [zeroValue,typeInfo,program,Sem.run,hi,hz]
 unfold Instr.lookup
 simp only [Sem.run_bind,run_underlying' hm,Result.andThen_ok,Go.MapKept.run_getObj_map hb,Sem.run_pure,int_key hd,int_find hd h]
 rw [← mfind_get k W 0]
 cases mfind k W 0 with
 | none => simp only [Sem.run_bind,hzv,Result.andThen_ok,Sem.run_pure]; cases ok <;> rfl
 | some p => cases ok <;> rfl
theorem run_mapUpdate {t kt e : TypeId} {q : IntKind} {k : Int} {v : Value} {r : Nat} {es : Array MapEntry} {ck : Nat} {W : List (Int × Value)} (hm : P.underlying t = some (.map kt e)) (hd : P.underlying kt = some (.int q)) (hb : w.heap[r]? = some (.map es ck)) (h : MapOk es ck W) :
  ∃ es' ck',MapOk es' ck' (mset W k v) ∧ (Instr.mapUpdate t (.map (some r)) (.int .i64 k) v).run P w = .ok () { w with heap := w.heap.setIfInBounds r (.map es' ck') } := by
 cases hf : mfind k W 0 with
 | none =>
  obtain ⟨h1,h2⟩ := mfind_none v hf
  refine ⟨es.push { key := .int .i64 k,val := v,born := ck },ck + 1,⟨?_,stamped_push h.st ?_⟩,?_⟩
  ·rw [Array.toList_push,List.map_append,h.rel,h1,List.map_append]; rfl
  ·intro x hx hk
   have hx2 : (x.key,x.val) ∈ W.map fun p => (Value.int .i64 p.1,p.2) := by rw [← h.rel]; exact List.mem_map.2 ⟨x,hx,rfl⟩
   obtain ⟨p,hp,he⟩ := List.mem_map.1 hx2
   simp only [Prod.mk.injEq] at he
   rw [hk] at he
   have := he.1
   simp only [Value.int.injEq,true_and] at this
   exact h2 p hp this
  ·simp only [Instr.mapUpdate,Sem.run_bind,run_underlying' hm,Result.andThen_ok,Go.MapKept.run_getObj_map hb,int_key hd,int_find hd h,hf,Go.MapKept.run_setObj_map _ hb]
 | some jp =>
  obtain ⟨j,u⟩ := jp
  obtain ⟨_,hW⟩ := mfind_some hf
  rw [Nat.sub_zero] at hW
  have hlen : es.toList.length = W.length := by have := congrArg List.length h.rel; simpa using this
  have hjW : j < W.length := (List.getElem?_eq_some_iff.1 hW).1
  have hj : j < es.size := by rw [← Array.length_toList]; omega
  have hej : (es[j].key,es[j].val) = (Value.int .i64 k,u) := by
   have h3 : (es.toList.map (fun e => (e.key,e.val)))[j]? = (W.map fun p => (Value.int .i64 p.1,p.2))[j]? := by rw [h.rel]
   rw [List.getElem?_map,List.getElem?_map,hW,Array.getElem?_toList,Array.getElem?_eq_getElem hj] at h3
   simpa using h3
  simp only [Prod.mk.injEq] at hej
  have hkt : (Instr.keyThatStays (((es[j]?).map (·.key)).getD (.int .i64 k)) (.int .i64 k)).run P w = .ok (.int .i64 k) w := by
   rw [Array.getElem?_eq_getElem hj,Option.map_some,Option.getD_some,hej.1]
   exact run_keyThatStays (d := .int .i64) (by first | trivial | rfl | exact ⟨_,rfl⟩)
  refine ⟨es.modify j (fun e => { e with key := .int .i64 k,val := v }),ck,⟨?_,stamped_modify h.st j _ (fun _ _ => rfl) (fun e _ hge => by rw [Array.getElem?_eq_getElem hj] at hge; cases hge; exact hej.1.symm)⟩,?_⟩
  ·rw [mfind_set v hf,Nat.sub_zero,List.map_set,← h.rel]
   apply List.ext_getElem?
   intro q
   simp only [List.getElem?_map,Array.getElem?_toList,Array.getElem?_modify,List.getElem?_set,List.length_map,Array.length_toList]
   by_cases hq : j = q
   ·subst hq; simp [hj]
   ·simp [hq]
  ·simp only [Instr.mapUpdate,Sem.run_bind,run_underlying' hm,Result.andThen_ok,Go.MapKept.run_getObj_map hb,int_key hd,int_find hd h,hf,hkt,Go.MapKept.run_setObj_map _ hb]
end
section
variable {C : Cx} {R O : List (Nat × Obj)} {Γ : Env} {op : Oper}
theorem Eff.mapGet {t kt e : TypeId} {q : IntKind} {x y : Operand} {ok : Bool} (ho : op.op = .lookup t x y ok) (hm : C.P.underlying t = some (.map kt e)) (hd : C.P.underlying kt = some (.int q)) {z : Value} (hz0 : (C.P.info? e).bind (·.zero) = some z) {r : Nat} {k : Int} (hx : opd Γ [] x = some (.map (some r))) (hy : opd Γ [] y = some (.int .i64 k))
  {es : Array MapEntry} {ck : Nat} {W : List (Int × Value)} (h : MapOk es ck W) (hb : ∀ w,HP C.w0 C.M R O w → w.heap[r]? = some (.map es ck)) :
  Eff C R O Γ op Unit (fun _ => if ok then .tuple #[(mget W k).getD z,.bool (mget W k).isSome] else (mget W k).getD z) (fun _ => O) (fun _ => True) :=
 Eff.of_run fun a w hs hp => ⟨(),w,trivial,by
  simp only [execOp,ho]
  refine run_v ?_
  rw [opd_ok hs (holds_nil _) hx,opd_ok hs (holds_nil _) hy]
  exact run_lookup hm hd hz0 (hb w hp) h ok,hp⟩
theorem Eff.mapGetV {t kt e : TypeId} {q : IntKind} {x y : Operand} (ho : op.op = .lookup t x y false) (hm : C.P.underlying t = some (.map kt e)) (hd : C.P.underlying kt = some (.int q)) {z : Value} (hz0 : (C.P.info? e).bind (·.zero) = some z) {r : Nat} {k : Int} (hx : opd Γ [] x = some (.map (some r))) (hy : opd Γ [] y = some (.int .i64 k))
  {es : Array MapEntry} {ck : Nat} {W : List (Int × Value)} (h : MapOk es ck W) (hb : ∀ w,HP C.w0 C.M R O w → w.heap[r]? = some (.map es ck)) {v : Value} (hv : mget W k = some v) :
  Eff C R O Γ op Unit (fun _ => v) (fun _ => O) (fun _ => True) := by
 have h1 := Eff.mapGet (z := z) ho hm hd hz0 hx hy h hb
 rw [hv] at h1
 exact h1
theorem Eff.mapSet {t kt e : TypeId} {q : IntKind} {x y v : Operand} (ho : op.op = .mapUpdate t x y v) (hm : C.P.underlying t = some (.map kt e)) (hd : C.P.underlying kt = some (.int q)) {r : Nat} {k : Int} {u : Value} (hx : opd Γ [] x = some (.map (some r))) (hy : opd Γ [] y = some (.int .i64 k)) (hv : opd Γ [] v = some u)
  {es : Array MapEntry} {ck : Nat} {W : List (Int × Value)} (h : MapOk es ck W) (i : Nat) (hO : O[i]? = some (r,.map es ck)) :
  Eff C R O Γ op (Array MapEntry × Nat) (fun _ => undef) (fun x => O.set i (r,.map x.1 x.2)) (fun x => MapOk x.1 x.2 (mset W k u)) := by
 refine Eff.of_skip fun a w hs hp => ?_
 obtain ⟨es',ck',h1,h2⟩ := run_mapUpdate (v := u) (k := k) hm hd (hp.own _ (List.mem_of_getElem? hO)) h
 refine ⟨(es',ck'),_,h1,?_,hp.set i (.map es' ck') hO (w' := { w with heap := w.heap.setIfInBounds r (.map es' ck') }) rfl rfl rfl rfl⟩
 have e1 := opd_ok hs (holds_nil _) hx
 have e2 := opd_ok hs (holds_nil _) hy
 have e3 := opd_ok hs (holds_nil _) hv
 simp [execOp,ho,e1,e2,e3,h2]
theorem Eff.mapNew {t : TypeId} (ho : op.op = .makeMap t none) : Eff C R O Γ op Nat (fun b => .map (some b)) (fun b => (b,.map #[] 0) :: O) (fun b => C.w0.heap.size ≤ b ∧ b ∉ O.map (·.1)) := by
 refine Eff.of_run fun a w hs hp => ⟨w.heap.size,w.alloc (.map #[] 0),⟨hp.ext.size,hp.fresh (Nat.le_refl _)⟩,?_,hp.alloc _⟩
 simp [execOp,ho,Instr.makeMap,newObj,Sem.run]
theorem MapOk.empty (ck : Nat) : MapOk #[] ck [] := ⟨rfl,stamped_empty ck⟩
theorem Eff.mapClear {t kt e : TypeId} {x : Operand} (ho : op.op = .call ⟨.builtin .clear,#[x],#[t]⟩) (hm : C.P.underlying t = some (.map kt e)) {r : Nat} (hx : opd Γ [] x = some (.map (some r))) {es : Array MapEntry} {ck : Nat} (i : Nat) (hO : O[i]? = some (r,.map es ck)) :
  Eff C R O Γ op Unit (fun _ => .tuple #[]) (fun _ => O.set i (r,.map #[] ck)) (fun _ => True) := by
 refine Eff.of_run fun a w hs hp => ?_
 have hb := hp.own _ (List.mem_of_getElem? hO)
 refine ⟨(),_,trivial,?_,hp.set i (.map #[] ck) hO (w' := { w with heap := w.heap.setIfInBounds r (.map #[] ck) }) rfl rfl rfl rfl⟩
 have hr' : (Builtin.clear_ #[t] op.type #[.map (some r)]).run C.P w = .ok (.tuple #[]) { w with heap := w.heap.setIfInBounds r (.map #[] ck) } := by
  simp [Builtin.clear_,run_underlying' hm,Go.MapKept.run_getObj_map hb,Go.MapKept.run_setObj_map _ hb]
 simp [execOp,ho,resolve,invoke,builtin,opd_ok hs (holds_nil _) hx,hr']
end
end K
end Go.Proofs.YtohjpggjgomgoaaGreatDoor
namespace Go.Proofs.YtohjpggjgomgoaaGreatDoor
namespace K
open Go.RowKit Go.Maps Go.Sort Go.Shelf Go.WideElems
set_option linter.unusedVariables false
structure KSortedKeys (P : Program) (fS fK ety : Nat) : Prop where
 has : ∃ fn c,P.funcs[fS]? = some fn ∧ (fn.name == "runtime.NumGoroutine") = false ∧ fn.body = some c
 some : ∀ (Bm b : Nat) (es : Array MapEntry) (clock : Nat) (ks : List Int) (w : World),w.heap[b]? = .some (.map es clock) → Go.MapKept.Stamped es clock → es.toList.map (·.key) = ks.map encZ →
  (∀ x ∈ ks,(Lit.int .i64 x).wf = true) → ks.length ≤ 1000000 → w.cell? ⟨Bm,0,none⟩ = .some (.map (.some b)) →
  Calls P fS #[.func (.func fK) #[] #[.pointer (.some ⟨Bm,0,none⟩)]] w fun e w' => ∃ v,e = .returned v ∧ w'.ownsRow w.heap.size ety 1 v ks.length ((ks.mergeSort leI).map encZ) ∧ (v = .slice none 0 0 ↔ ks = []) ∧ Go.RowKit.Below w.heap.size w w'
 none : ∀ (Bm : Nat) (w : World),w.cell? ⟨Bm,0,none⟩ = .some (.map none) →
  Calls P fS #[.func (.func fK) #[] #[.pointer (.some ⟨Bm,0,none⟩)]] w fun e w' => e = .returned (.slice none 0 0) ∧ Go.RowKit.Below w.heap.size w w'
def noRead (_ : Value) : Option (DataW Unit × List MemPlace) := some (.nil,[])
theorem keyOf_int {P : Program} {k : TypeId} {x : Int} (hk : P.underlying k = some (.int .i64)) (hw : (Lit.int .i64 x).wf = true) : keyOf P k (encZ x) = some (.int .i64 x) := by
 simp [keyOf,hk,mapKey,hw]
theorem keys_perm {P : Program} {k : TypeId} (hk : P.underlying k = some (.int .i64)) : ∀ {es : List MapEntry} {ks : List Int},es.map (·.key) = ks.map encZ → (∀ x ∈ ks,(Lit.int .i64 x).wf = true) →
  (∀ x ∈ es,∃ y,rd P k noRead x = some y) ∧ (es.map (rg P k noRead)).map (fun p => intOf p.1) = ks
 | [],[],_,_ => ⟨fun x hx => (by cases hx),rfl⟩
 | [],_ :: _,h,_ => by simp at h
 | _ :: _,[],h,_ => by simp at h
 | e :: es,x :: ks,h,hw => by
  simp only [List.map_cons,List.cons.injEq] at h
  obtain ⟨h1,h2⟩ := h
  obtain ⟨g1,g2⟩ := keys_perm hk h2 (fun y hy => hw y (List.mem_cons_of_mem _ hy))
  have hrd : rd P k noRead e = some (.int .i64 x,.nil) := by
   have := keyOf_int hk (hw x (List.mem_cons_self ..))
   simp [rd,h1,this,noRead]
  refine ⟨fun y hy => ?_,?_⟩
  ·rcases List.mem_cons.1 hy with rfl | hy
   ·exact ⟨_,hrd⟩
   ·exact g1 y hy
  ·simp only [List.map_cons,g2,rg_of hrd]
   rfl
theorem kSortedKeys_of {P : Program} {ρk ρs : Ren} (Lk : SlLaysZI.n7 P ρk) (Ls : SlLaysZI.n6 P ρs) (hsort : ∀ m,AnyZI.SortsIn P ρs Fence.wide m) (e9 : ∀ args w,(callFunc (ρs.f 9) args).run P w = .ok (.enter (ρs.f 9) args) w) :
  KSortedKeys P (ρs.f 6) (ρk.f 10) (ρs.t 26) := by
 have eg : ∀ args w,(callFunc (ρk.f 10) args).run P w = .ok (.enter (ρk.f 10) args) w := Lk.f10.enters rfl
 refine ⟨?_,fun Bm b es clock ks w hb hst hk hw hle hcell => ?_,fun Bm w hcell => ?_⟩
 ·obtain ⟨nm,h1,h2⟩ := Ls.f6
  exact ⟨_,_,h2,h1,rfl⟩
 ·obtain ⟨g1,g2⟩ := keys_perm (P := P) Lk.t26 hk hw
  have hlen : es.size = ks.length := by
   have := congrArg List.length hk
   simpa using this
  have hp : (intKeys (DataW.map ((es.toList.map (rg P (ρk.t 26) noRead)).foldr DataW.insert []))).Perm ks := by
   have := ((WideShapes.sorted_perm (es.toList.map (rg P (ρk.t 26) noRead))).map (fun p => intOf p.1))
   rw [g2] at this
   exact this
  have hsz : Maps.size (DataW.map ((es.toList.map (rg P (ρk.t 26) noRead)).foldr DataW.insert [])) = ks.length := by
   have := (WideShapes.sorted_perm (es.toList.map (rg P (ρk.t 26) noRead))).length_eq
   simpa [Maps.size,hlen] using this
  have hown : w.ownsMap P (ρk.t 26) noRead b es.size (DataW.map ((es.toList.map (rg P (ρk.t 26) noRead)).foldr DataW.insert [])) :=
   ⟨es,clock,hb,⟨by rw [hlen]; exact Nat.le_trans hle (by decide),hst,g1⟩,Nat.le_refl _,rfl⟩
  have hBm : Bm < w.heap.size := by
   cases hx : w.heap[Bm]? with
   | none => simp [World.cell?,hx] at hcell
   | some o => exact (Array.getElem?_eq_some_iff.1 hx).1
  have hseq := AnyZI.keys_gives (ρ := ρk) { Lk with } Fence.wide 2 trivial rfl om Bm b es.size _ w hBm hcell hown
  have cS := AnyZI.sorted_in Ls Fence.wide 5 trivial trivial trivial trivial rfl om (hsort _) e9 (ρk.f 10) #[.pointer (some ⟨Bm,0,none⟩)] trivial eg _ _ (by rw [hsz]; exact Nat.le_trans hle (by decide)) (by rw [hsz]; omega) w hseq
  refine ((callsIn_wide (n := 5)).1 cS).mono ?_
  rintro e w' ⟨v,ss,rfl,hS,hrow,hnil,hB⟩
  have hpp : ss.Perm ks := hS.trans hp
  rw [hpp.length_eq,mergeSort_of_perm_i hpp] at hrow
  refine ⟨v,rfl,hrow,?_,hB⟩
  rw [hnil]
  constructor
  ·intro h; subst h; exact List.Perm.nil_eq hpp |>.symm
  ·intro h; subst h; exact List.Perm.eq_nil hpp
 ·have hBm : Bm < w.heap.size := by
   cases hx : w.heap[Bm]? with
   | none => simp [World.cell?,hx] at hcell
   | some o => exact (Array.getElem?_eq_some_iff.1 hx).1
  have hseq := AnyZI.keys_gives_nil (ρ := ρk) { Lk with } Fence.wide 2 trivial rfl Bm w hBm hcell
  have cS := AnyZI.sorted_in Ls Fence.wide 5 trivial trivial trivial trivial rfl om (hsort _) e9 (ρk.f 10) #[.pointer (some ⟨Bm,0,none⟩)] trivial eg _ 0 (Nat.zero_le _) om w hseq
  refine ((callsIn_wide (n := 5)).1 cS).mono ?_
  rintro e w' ⟨v,ss,rfl,rfl,hrow,hnil,hB⟩
  obtain rfl := hnil.2 rfl
  exact ⟨rfl,hB⟩
theorem in64 {x : Int} (h : -9223372036854775808 ≤ x ∧ x ≤ 9223372036854775807) : (Lit.int .i64 x).wf = true := by
 simp only [Lit.wf]
 simp
 exact h
def srt (l : List Int) : List Int := l.mergeSort leI
theorem srt_perm (l : List Int) : (srt l).Perm l := List.mergeSort_perm l leI
theorem srt_len (l : List Int) : (srt l).length = l.length := (srt_perm l).length_eq
theorem srt_sorted (l : List Int) : (srt l).Pairwise (fun a b => a ≤ b) := by
 have h := List.pairwise_mergeSort (le := leI) (fun a b c h1 h2 => by simp only [leI,decide_eq_true_eq] at *; omega) (fun a b => by simp only [leI,Bool.or_eq_true,decide_eq_true_eq]; omega) l
 exact h.imp (fun h => by simpa [leI] using h)
theorem sorted_gives {P : Program} {fS fK ety : Nat} (S : KSortedKeys P fS fK ety) (bm r : Nat) (es : Array MapEntry) (ck : Nat) (W : List (Int × Value)) (w : World) (h : MapOk es ck W) (hb : w.heap[r]? = .some (.map es ck)) (hk : ∀ p ∈ W,-9223372036854775808 ≤ p.1 ∧ p.1 ≤ 9223372036854775807) (hl : W.length ≤ 1000000)
  (hc : w.cell? ⟨bm,0,none⟩ = .some (.map (.some r))) :
  Calls P fS #[.func (.func fK) #[] #[.pointer (.some ⟨bm,0,none⟩)]] w fun e w' => ∃ o : Own,OwnOk o 1 W.length ((srt (W.map (·.1))).map encZ) ∧ e = .returned (.slice o.a W.length o.c) ∧ Has w' (o.o ety ((srt (W.map (·.1))).map encZ)) ∧ (∀ x ∈ o.o ety ((srt (W.map (·.1))).map encZ),w.heap.size ≤ x.1) ∧ Ext [] w w' := by
 have hkeys : es.toList.map (·.key) = (W.map (·.1)).map encZ := by
  have := congrArg (List.map (·.1)) h.rel
  rw [List.map_map,List.map_map] at this
  rw [List.map_map]
  exact this
 refine (S.some bm r es ck (W.map (·.1)) w hb h.st hkeys (fun x hx => by obtain ⟨p,hp,rfl⟩ := List.mem_map.1 hx; exact in64 (hk p hp)) (by rw [List.length_map]; exact hl) hc).mono ?_
 rintro e w' ⟨v,rfl,hrow,_,hB⟩
 rw [List.length_map] at hrow
 have hx : Ext [] w w' := ⟨hB.os,hB.tape,hB.output,hB.size,fun k hk _ => hB.block k hk⟩
 rcases hrow.2 with ⟨rfl,h0⟩ | ⟨g,cap,cur,rfl,hbase,hg,r1,_,r3,r4⟩
 ·have hW : W = [] := List.eq_nil_of_length_eq_zero h0
  subst hW
  have e0 : srt (([] : List (Int × Value)).map (·.1)) = [] := List.eq_nil_of_length_eq_zero (by rw [srt_len]; rfl)
  rw [e0]
  exact ⟨.none,OwnOk.none 1,rfl,(fun e he => by cases he),(fun e he => by cases he),hx⟩
 ·have hcur : ((srt (W.map (·.1))).map encZ ++ cur.toList.drop W.length).toArray = cur := by
   apply Array.ext'
   show (srt (W.map (·.1))).map encZ ++ cur.toList.drop W.length = cur.toList
   have r4' : cur.toList.take W.length = (srt (W.map (·.1))).map encZ := by rw [Nat.mul_one] at r4; exact r4
   rw [← r4',List.take_append_drop]
  refine ⟨.some (g,cap,cur.toList.drop W.length),⟨by rw [List.length_map,srt_len,List.length_map,Nat.mul_one],fun h => (by cases h),fun p hp => ?_⟩,rfl,fun e he => ?_,fun e he => ?_,hx⟩
  ·cases hp
   refine ⟨?_,r1⟩
   have r3' : cur.toList.length = cap := by rw [Array.length_toList,r3,Nat.mul_one]
   simp only
   rw [List.length_map,srt_len,List.length_map,List.length_drop,r3']; omega
  ·rw [List.mem_singleton.1 he]
   simp only
   rw [hcur]; exact hg
  ·rw [List.mem_singleton.1 he]; exact hbase
end K
end Go.Proofs.YtohjpggjgomgoaaGreatDoor
