/- Texts on which the proof of this claim stands: I4, I5, I6, I7, I8, IM, I9, I10, I11, I12, I13, I14, I15. -/
import Derived.Test.YtojefiolcedigaaGreatDoorP4
import Derived.Stop.BytesEq
import Derived.MapKept
import Derived.Lib.Builder
import Derived.Lib.UnsafeStr
import Derived.Lib.Bytealg
import Derived.RangeFuncLeaves
import Derived.OrdersIn
import Derived.Sort.LoopGhostIn
namespace Go.Proofs.YtojefiolcedigaaGreatDoor
namespace I
open K (one aggB run_underlying' run_sizeOf' add_none)
set_option linter.unusedVariables false
def ilt : Int → Int → Bool
 | .ofNat a,.ofNat b => Nat.blt a b
 | .ofNat _,.negSucc _ => false
 | .negSucc _,.ofNat _ => true
 | .negSucc a,.negSucc b => Nat.blt b a
def ieq : Int → Int → Bool
 | .ofNat a,.ofNat b => Nat.beq a b
 | .negSucc a,.negSucc b => Nat.beq a b
 | _,_ => false
theorem blt_dec (a b : Nat) : Nat.blt a b = decide (a < b) := by
 cases h : Nat.blt a b with
 | true => simpa using blt_iff.1 h
 | false => have := blt_false.1 h; simp; omega
theorem beqn_dec (a b : Nat) : Nat.beq a b = decide (a = b) := by
 cases h : Nat.beq a b with
 | true => simpa using beqn_iff.1 h
 | false =>
  have : ¬ a = b := fun hh => by rw [beqn_iff.2 hh] at h; cases h
  simpa using this
theorem ilt_eq (a b : Int) : ilt a b = decide (a < b) := by
 cases a <;> cases b <;> simp only [ilt,blt_dec] <;> apply Bool.eq_iff_iff.2 <;> simp <;> omega
theorem ieq_eq (a b : Int) : ieq a b = decide (a = b) := by
 cases a <;> cases b <;> simp only [ieq,beqn_dec] <;> apply Bool.eq_iff_iff.2 <;> simp <;> omega
theorem ieq_beq (a b : Int) : ieq a b = (a == b) := by rw [ieq_eq]; rfl
def maxN : IntKind → Nat
 | .i8 => 127 | .i16 => 32767 | .i32 => 2147483647 | .i64 => 9223372036854775807 | .u8 => 255 | .u16 => 65535 | .u32 => 4294967295 | .u64 => 18446744073709551615
def wrapF (k : IntKind) : Int → Int
 | .ofNat m => bif Nat.ble m (maxN k) then .ofNat m else k.wrap (.ofNat m)
 | .negSucc m => bif K.sg k && Nat.ble m (maxN k) then .negSucc m else k.wrap (.negSucc m)
theorem wrapF_eq (k : IntKind) (n : Int) : wrapF k n = k.wrap n := by
 cases n with
 | ofNat m =>
  simp only [wrapF]
  cases h : Nat.ble m (maxN k) with
  | false => rfl
  | true =>
   have h1 := ble_iff.1 h
   simp only [cond_true]
   refine (K.wrap_in ?_).symm
   cases k <;> simp only [K.lo,K.hi,maxN,Int.ofNat_eq_natCast] at * <;> omega
 | negSucc m =>
  simp only [wrapF]
  cases h : (K.sg k && Nat.ble m (maxN k)) with
  | false => rfl
  | true =>
   simp only [Bool.and_eq_true] at h
   have h1 := ble_iff.1 h.2
   have h0 := h.1
   simp only [cond_true]
   refine (K.wrap_in ?_).symm
   cases k <;> simp only [K.lo,K.hi,maxN,K.sg,Bool.false_eq_true] at * <;> omega
def inr (k : IntKind) : Int → Option Nat
 | .ofNat m => bif Nat.ble m (maxN k) then some m else none
 | _ => none
theorem inr_ok {k : IntKind} {n : Int} {m : Nat} (h : inr k n = some m) : n = (m : Int) ∧ (m : Int) ≤ K.hi k := by
 cases n with
 | ofNat x =>
  unfold inr at h
  cases hb : Nat.ble x (maxN k) with
  | false => simp [hb] at h
  | true =>
   simp only [hb,cond_true,Option.some.injEq] at h
   subst h
   have := ble_iff.1 hb
   refine ⟨rfl,?_⟩
   cases k <;> simp [K.hi,maxN] at * <;> omega
 | negSucc x => simp [inr] at h
def binI (op : BinOp) (k : IntKind) (a b : Int) : Option AV :=
 match op with
 | .add => some (.int k (wrapF k (a + b)))
 | .sub => some (.int k (wrapF k (a - b)))
 | .mul => some (.int k (wrapF k (a * b)))
 | .quo => match inr k a,inr k b with
  | some x,some y => bif Nat.beq y 0 then none else some (.int k (.ofNat (x / y)))
  | _,_ => none
 | .rem => match inr k b with
  | some y => bif Nat.beq y 0 then none else some (.int k (a.tmod (.ofNat y)))
  | none => none
 | .and => match inr k a,inr k b with
  | some x,some y => some (.int k (.ofNat (Nat.land x y)))
  | _,_ => none
 | .or => match inr k a,inr k b with
  | some x,some y => some (.int k (.ofNat (Nat.lor x y)))
  | _,_ => none
 | .xor => match inr k a,inr k b with
  | some x,some y => some (.int k (.ofNat (Nat.xor x y)))
  | _,_ => none
 | .eql => some (.bool (ieq a b))
 | .neq => some (.bool (!ieq a b))
 | .lss => some (.bool (ilt a b))
 | .leq => some (.bool (!ilt b a))
 | .gtr => some (.bool (ilt b a))
 | .geq => some (.bool (!ilt a b))
 | _ => none
section
variable {P : Program} {σ : Sg} {w : World}
theorem mem1 {q : Prop} (h : q) : ∀ p ∈ [q],p := fun p hp => by
 simp only [List.mem_cons,List.not_mem_nil,or_false] at hp
 rw [hp]; exact h
theorem not_lt_dec (x y : Int) : (!decide (y < x)) = decide (x ≤ y) := by
 apply Bool.eq_iff_iff.2; simp
theorem binI_ok {op : BinOp} {k : IntKind} {x y : Int} {ty : TypeId} {a : AV} (h : binI op k x y = some a) : ∃ v,Rel σ a v ∧ (binOp op ty (.int k x) (.int k y)).run P w = .ok v w := by
 cases op <;> simp only [binI,Option.some.injEq,reduceCtorEq] at h
 case add => subst h; exact ⟨_,.int _ _,by simp [binOp,Op.intArith,wrapF_eq]⟩
 case sub => subst h; exact ⟨_,.int _ _,by simp [binOp,Op.intArith,wrapF_eq]⟩
 case mul => subst h; exact ⟨_,.int _ _,by simp [binOp,Op.intArith,wrapF_eq]⟩
 case quo =>
  split at h
  ·rename_i m n h1 h2
   obtain ⟨rfl,h3⟩ := inr_ok h1
   obtain ⟨rfl,h4⟩ := inr_ok h2
   cases hb : Nat.beq n 0 with
   | true => simp [hb] at h
   | false =>
    have hn0 : n ≠ 0 := fun e => by rw [beqn_iff.2 e] at hb; cases hb
    simp only [hb,cond_false,Option.some.injEq] at h
    subst h
    exact ⟨_,.int _ _,K.run_binI (op := .quo) (nd := [0 ≤ (m : Int) ∧ (m : Int) ≤ K.hi k ∧ 0 < (n : Int)]) (by simp [K.binI]) (mem1 (by omega))⟩
  ·cases h
 case rem =>
  split at h
  ·rename_i n h2
   obtain ⟨rfl,h4⟩ := inr_ok h2
   cases hb : Nat.beq n 0 with
   | true => simp [hb] at h
   | false =>
    have hn0 : n ≠ 0 := fun e => by rw [beqn_iff.2 e] at hb; cases hb
    simp only [hb,cond_false,Option.some.injEq] at h
    subst h
    exact ⟨_,.int _ _,by simp [binOp,Op.intDiv,hn0]⟩
  ·cases h
 case and =>
  split at h
  ·rename_i m n h1 h2
   obtain ⟨rfl,h3⟩ := inr_ok h1
   obtain ⟨rfl,h4⟩ := inr_ok h2
   simp only [Option.some.injEq] at h; subst h
   exact ⟨_,.int _ _,K.run_binI (op := .and) (nd := [(0 ≤ (m : Int) ∧ (m : Int) ≤ K.hi k) ∧ 0 ≤ (n : Int) ∧ (n : Int) ≤ K.hi k]) (by simp only [K.binI,Int.toNat_natCast]; rfl) (mem1 (by omega))⟩
  ·cases h
 case or =>
  split at h
  ·rename_i m n h1 h2
   obtain ⟨rfl,h3⟩ := inr_ok h1
   obtain ⟨rfl,h4⟩ := inr_ok h2
   simp only [Option.some.injEq] at h; subst h
   exact ⟨_,.int _ _,K.run_binI (op := .or) (nd := [(0 ≤ (m : Int) ∧ (m : Int) ≤ K.hi k) ∧ 0 ≤ (n : Int) ∧ (n : Int) ≤ K.hi k]) (by simp only [K.binI,Int.toNat_natCast]; rfl) (mem1 (by omega))⟩
  ·cases h
 case xor =>
  split at h
  ·rename_i m n h1 h2
   obtain ⟨rfl,h3⟩ := inr_ok h1
   obtain ⟨rfl,h4⟩ := inr_ok h2
   simp only [Option.some.injEq] at h; subst h
   exact ⟨_,.int _ _,K.run_binI (op := .xor) (nd := [(0 ≤ (m : Int) ∧ (m : Int) ≤ K.hi k) ∧ 0 ≤ (n : Int) ∧ (n : Int) ≤ K.hi k]) (by simp only [K.binI,Int.toNat_natCast]; rfl) (mem1 (by omega))⟩
  ·cases h
 case eql => subst h; exact ⟨_,.bool _,by simp [binOp,Op.intCmp,ieq_beq]⟩
 case neq => subst h; exact ⟨_,.bool _,by simp [binOp,Op.intCmp,ieq_beq]; rfl⟩
 case lss => subst h; exact ⟨_,.bool _,by simp [binOp,Op.intCmp,ilt_eq]⟩
 case leq => subst h; exact ⟨_,.bool _,by simp only [binOp,Op.intCmp,ilt_eq,not_lt_dec]; simp⟩
 case gtr => subst h; exact ⟨_,.bool _,by simp only [binOp,Op.intCmp,ilt_eq]; simp⟩
 case geq => subst h; exact ⟨_,.bool _,by simp only [binOp,Op.intCmp,ilt_eq,not_lt_dec]; simp⟩
def shI (op : BinOp) (k : IntKind) (a b : Int) : Option AV :=
 match b with
 | .ofNat n => bif Nat.ble n k.bits then
   match op,a with
   | .shl,.ofNat m => some (.int k (wrapF k (.ofNat (m * 2 ^ n))))
   | .shr,.ofNat m => some (.int k (.ofNat (m / 2 ^ n)))
   | _,_ => none
  else none
 | _ => none
theorem shI_ok {op : BinOp} {k k' : IntKind} {x y : Int} {ty : TypeId} {a : AV} (h : shI op k x y = some a) : ∃ v,Rel σ a v ∧ (binOp op ty (.int k x) (.int k' y)).run P w = .ok v w := by
 unfold shI at h
 split at h
 ·rename_i n
  cases hb : Nat.ble n k.bits with
  | false => simp [hb] at h
  | true =>
   simp only [hb,cond_true] at h
   have hm : min n k.bits = n := Nat.min_eq_left (ble_iff.1 hb)
   split at h
   ·rename_i m
    simp only [Option.some.injEq] at h; subst h
    refine ⟨_,.int _ _,?_⟩
    have e2 : ¬ ((n : Int) < 0) := by omega
    have e1 : (m : Int) * 2 ^ n = ((m * 2 ^ n : Nat) : Int) := by simp
    simp only [binOp,Op.shift,Int.ofNat_eq_natCast,e2,if_false,Int.toNat_natCast,hm,wrapF_eq,e1]
    rfl
   ·rename_i m
    simp only [Option.some.injEq] at h; subst h
    refine ⟨_,.int _ _,?_⟩
    have e2 : ¬ ((n : Int) < 0) := by omega
    have e3 : (m : Int).fdiv (2 ^ n) = ((m / 2 ^ n : Nat) : Int) := by
     rw [Int.fdiv_eq_ediv_of_nonneg _ (Int.le_of_lt (Int.pow_pos (by decide)))]
     simp
    simp only [binOp,Op.shift,Int.ofNat_eq_natCast,e2,if_false,Int.toNat_natCast,hm,e3]
    rfl
   ·cases h
 ·cases h
def binS (op : BinOp) (n x m y : Nat) : Option AV :=
 match op with
 | .add => bif Nat.ble (n + m) 9223372036854775807 then some (.str (n + m) (x * 256 ^ m + y)) else none
 | .eql => some (.bool (Nat.beq n m && Nat.beq x y))
 | .neq => some (.bool (!(Nat.beq n m && Nat.beq x y)))
 | .lss => some (.bool (strLess n x m y))
 | .geq => some (.bool (!strLess n x m y))
 | .leq => some (.bool (strLess n x m y || (Nat.beq n m && Nat.beq x y)))
 | .gtr => some (.bool (!(strLess n x m y || (Nat.beq n m && Nat.beq x y))))
 | _ => none
theorem toList_eq (s : ByteArray) : s.toList = s.data.toList := ByteArray.toList_eq s
theorem beq_str (s t : ByteArray) : (s.toList == t.toList) = (Nat.beq s.size t.size && Nat.beq (val s.data.toList) (val t.data.toList)) := by
 rw [toList_eq,toList_eq]
 cases hb : Nat.beq s.size t.size with
 | true =>
  have := beqn_iff.1 hb
  rw [beq_val (by simpa using this),Bool.true_and]
 | false =>
  rw [Bool.false_and,beq_eq_false_iff_ne]
  intro hh
  have : s.size = t.size := by
   have := congrArg List.length hh
   simpa using this
  rw [beqn_iff.2 this] at hb; cases hb
theorem binS_ok {op : BinOp} {s t : ByteArray} {ty : TypeId} {a : AV} (h : binS op s.size (val s.data.toList) t.size (val t.data.toList) = some a) :
  ∃ v,Rel σ a v ∧ (binOp op ty (.string s) (.string t)).run P w = .ok v w := by
 have hl : ∀ (s t : ByteArray),Op.bytesLess s.toList t.toList = strLess s.size (val s.data.toList) t.size (val t.data.toList) := fun s t => by
  rw [toList_eq,toList_eq,strLess_ok]; simp
 cases op <;> simp only [binS,Option.some.injEq,reduceCtorEq] at h
 case add =>
  cases hb : Nat.ble (s.size + t.size) 9223372036854775807 with
  | false => simp [hb] at h
  | true =>
   simp only [hb,cond_true,Option.some.injEq] at h
   subst h
   refine ⟨.string (s ++ t),.str _ _ _ (by simp [ByteArray.size_append]) ?_,K.run_binS (op := .add) (nd := [s.size + t.size ≤ 9223372036854775807]) (by simp [K.binS]) (mem1 (ble_iff.1 hb))⟩
   have e : (s ++ t).data.toList = s.data.toList ++ t.data.toList := by simp [ByteArray.data_append]
   rw [e,val_append]; simp
 case eql => subst h; exact ⟨_,.bool _,by simp [binOp,Op.stringOp,beq_str]⟩
 case neq => subst h; exact ⟨_,.bool _,by simp [binOp,Op.stringOp,beq_str]⟩
 case lss => subst h; exact ⟨_,.bool _,by simp [binOp,Op.stringOp,hl]⟩
 case leq => subst h; exact ⟨_,.bool _,by simp [binOp,Op.stringOp,hl,beq_str]⟩
 case gtr => subst h; exact ⟨_,.bool _,by simp [binOp,Op.stringOp,hl,beq_str]⟩
 case geq => subst h; exact ⟨_,.bool _,by simp [binOp,Op.stringOp,hl]⟩
end
end I
end Go.Proofs.YtojefiolcedigaaGreatDoor
namespace Go.Proofs.YtojefiolcedigaaGreatDoor
namespace I
open K (one aggB run_underlying' run_sizeOf' add_none)
set_option linter.unusedVariables false
def RowRel (σ : Sg) (n : Nat) (t : AV) (cs : Array Value) : Prop :=
 cs.size = n ∧ (∀ (i : Nat) v,cs[i]? = some v → one v = true) ∧ ∀ (i : Nat) v,cs[i]? = some v → Rel σ (cget (lg n) t i) v
def rowA : AV → Option (Nat × AV)
 | .agg n t => some (n,t)
 | a => bif scalarA a then some (1,a) else none
section
variable {P : Program} {σ : Sg} {w : World}
theorem rowA_ok {a : AV} {v : Value} {m : Nat} {s : AV} (hr : Rel σ a v) (h : rowA a = some (m,s)) : RowRel σ m s v.cells := by
 cases a with
 | agg n t =>
  simp only [rowA,Option.some.injEq,Prod.mk.injEq] at h
  obtain ⟨rfl,rfl⟩ := h
  cases hr with
  | agg _ _ cs hn h1 h2 => exact ⟨hn,h1,h2⟩
 | _ =>
  all_goals
   simp only [rowA] at h
   cases hs : scalarA _ with
   | false => rw [hs] at h; simp at h
   | true =>
    rw [hs] at h
    simp only [cond_true,Option.some.injEq,Prod.mk.injEq] at h
    obtain ⟨rfl,rfl⟩ := h
    have h1 := hr.one hs
    have hc : v.cells = #[v] := by cases v <;> first | rfl | simp [K.one] at h1
    rw [hc]
    refine ⟨rfl,fun i u hu => ?_,fun i u hu => ?_⟩
    ·cases i with
     | zero => simp at hu; rw [← hu]; exact h1
     | succ i => simp at hu
    ·cases i with
     | zero => simp at hu; rw [← hu]; exact hr
     | succ i => simp at hu
def scalarC : Value → AV
 | .bool b => .bool b
 | .int k n => .int k n
 | .string s => .str s.size (val s.data.toList)
 | .pointer none => .nilp
 | .slice none 0 0 => .nils
 | .map none => .nilm
 | .nilFunc => .nilf
 | .nilIface => .nili
 | _ => .bad
theorem scalarC_ok (σ : Sg) (v : Value) : Rel σ (scalarC v) v := by
 unfold scalarC
 split
 ·exact .bool _
 ·exact .int _ _
 ·exact .str _ _ _ rfl rfl
 ·exact .nilp
 ·exact .nils
 ·exact .nilm
 ·exact .nilf
 ·exact .nili
 ·exact .bad _
def allSc : List Value → Option (List AV)
 | [] => some []
 | v :: l => bif scalarA (scalarC v) then (allSc l).map (scalarC v :: ·) else none
theorem allSc_ok : ∀ {l : List Value} {asx : List AV},allSc l = some asx → asx = l.map scalarC ∧ ∀ v ∈ l,scalarA (scalarC v) = true
 | [],asx,h => by simp only [allSc,Option.some.injEq] at h; subst h; simp
 | v :: l,asx,h => by
  unfold allSc at h
  cases hb : scalarA (scalarC v) with
  | false => simp [hb] at h
  | true =>
   simp only [hb,cond_true,Option.map_eq_some_iff] at h
   obtain ⟨as',h1,rfl⟩ := h
   obtain ⟨rfl,h2⟩ := allSc_ok h1
   refine ⟨rfl,fun u hu => ?_⟩
   rcases List.mem_cons.1 hu with rfl | hu
   ·exact hb
   ·exact h2 u hu
def kn : IntKind → Nat
 | .i8 => 0 | .i16 => 1 | .i32 => 2 | .i64 => 3 | .u8 => 4 | .u16 => 5 | .u32 => 6 | .u64 => 7
theorem kn_inj {k k' : IntKind} (h : Nat.beq (kn k) (kn k') = true) : k = k' := by
 have := beqn_iff.1 h
 cases k <;> cases k' <;> first | rfl | simp [kn] at this
def allI (k : IntKind) (n : Int) : List AV → Bool
 | [] => true
 | .int k' n' :: l => Nat.beq (kn k') (kn k) && ieq n' n && allI k n l
 | _ => false
theorem allI_ok {k : IntKind} {n : Int} : ∀ {l : List AV},allI k n l = true → ∀ a ∈ l,a = .int k n
 | [],_,a,ha => by cases ha
 | x :: l,h,a,ha => by
  unfold allI at h
  split at h
  ·rename_i heq; cases heq
  ·rename_i k' n' l' heq
   simp only [List.cons.injEq] at heq
   obtain ⟨rfl,rfl⟩ := heq
   simp only [Bool.and_eq_true] at h
   obtain ⟨⟨h1,h2⟩,h3⟩ := h
   have := kn_inj h1
   subst this
   rw [ieq_eq] at h2
   have := of_decide_eq_true h2
   subst this
   rcases List.mem_cons.1 ha with rfl | ha
   ·rfl
   ·exact allI_ok h3 a ha
  ·cases h
def treeOf (n : Nat) (l : List AV) : AV :=
 match l with
 | .int k m :: l' => bif allI k m l' then unid (lg n) (.int k m) else cmk (fun i => l.getD i .undef) (lg n) 0 n
 | l => cmk (fun i => l.getD i .undef) (lg n) 0 n
theorem treeOf_get {n : Nat} {l : List AV} (hl : l.length = n) {i : Nat} (hi : i < n) : cget (lg n) (treeOf n l) i = l.getD i .undef := by
 unfold treeOf
 split
 ·rename_i k m l'
  cases hb : allI k m l' with
  | true =>
   simp only [cond_true,cget_unid]
   have h1 : i < (AV.int k m :: l').length := by omega
   rw [List.getD_eq_getElem?_getD,List.getElem?_eq_getElem h1,Option.getD_some]
   rcases List.mem_cons.1 (List.getElem_mem h1) with h | h
   ·exact h.symm
   ·exact (allI_ok hb _ h).symm
  | false => simp only [cond_false]; rw [cget_cmk _ _ _ _ _ (lg_le n) hi,Nat.zero_add]
 ·rw [cget_cmk _ _ _ _ _ (lg_le n) hi,Nat.zero_add]
def ofConst : Value → AV
 | .agg cs => match allSc cs.toList with
  | some l => .agg cs.size (treeOf cs.size l)
  | none => .bad
 | v => scalarC v
theorem ofConst_ok (σ : Sg) (v : Value) : Rel σ (ofConst v) v := by
 unfold ofConst
 split
 ·rename_i cs
  split
  ·rename_i l hl
   obtain ⟨rfl,h2⟩ := allSc_ok hl
   have hlen : (cs.toList.map scalarC).length = cs.size := by simp
   refine .agg _ _ _ rfl (fun i v hv => ?_) (fun i v hv => ?_)
   ·have hm : v ∈ cs.toList := by rw [Array.mem_toList_iff]; exact Array.mem_of_getElem? hv
    exact (scalarC_ok σ v).one (h2 v hm)
   ·have hi : i < cs.size := by
     rcases Nat.lt_or_ge i cs.size with h | h
     ·exact h
     ·rw [Array.getElem?_eq_none h] at hv; cases hv
    rw [treeOf_get hlen hi,List.getD_eq_getElem?_getD,List.getElem?_map]
    have : cs.toList[i]? = some v := by simpa using hv
    rw [this]
    exact scalarC_ok σ v
  ·exact .bad _
 ·exact scalarC_ok σ _
def zeroA (P : Program) (t : TypeId) : AV :=
 match (P.info? t).bind (·.zero) with
 | some v => ofConst v
 | none => .bad
theorem run_zeroValue {t : TypeId} {z : Value} (h : (P.info? t).bind (·.zero) = some z) : (zeroValue t).run P w = .ok z w := by
 obtain ⟨inf,hi,hz⟩ := Option.bind_eq_some_iff.1 h
 simp [zeroValue,typeInfo,program,Sem.run,hi,hz]
theorem zeroA_ok {t : TypeId} {a : AV} (h : zeroA P t = a) (hb : a ≠ .bad) (σ : Sg) : ∃ z,(P.info? t).bind (·.zero) = some z ∧ Rel σ a z := by
 unfold zeroA at h
 split at h
 ·rename_i z hz
  exact ⟨z,hz,h ▸ ofConst_ok σ z⟩
 ·exact absurd h.symm hb
theorem zip_set {vs : List Value} : ∀ (k off : Nat) (cs : Array Value),((vs.zipIdx k).foldl (fun (cs : Array Value) (p : Value × Nat) => cs.setIfInBounds (off + p.2) p.1) cs).size = cs.size ∧
  ∀ j,off + k + vs.length ≤ cs.size → ((vs.zipIdx k).foldl (fun (cs : Array Value) (p : Value × Nat) => cs.setIfInBounds (off + p.2) p.1) cs)[j]? = if off + k ≤ j ∧ j < off + k + vs.length then vs[j - (off + k)]? else cs[j]? := by
 induction vs with
 | nil => intro k off cs; refine ⟨rfl,fun j _ => ?_⟩; rw [if_neg (by simp)]; rfl
 | cons v vs ih =>
  intro k off cs
  simp only [List.zipIdx_cons,List.foldl_cons]
  obtain ⟨h1,h2⟩ := ih (k + 1) off (cs.setIfInBounds (off + k) v)
  refine ⟨by rw [h1]; simp,fun j hj => ?_⟩
  simp only [List.length_cons] at hj
  rw [h2 j (by simp; omega)]
  by_cases hjk : j = off + k
  ·subst hjk
   rw [if_neg (by omega),if_pos (by simp),Array.getElem?_setIfInBounds]
   simp; omega
  ·by_cases hin : off + (k + 1) ≤ j ∧ j < off + (k + 1) + vs.length
   ·rw [if_pos hin,if_pos (by simp; omega),show j - (off + k) = (j - (off + (k + 1))) + 1 by omega,List.getElem?_cons_succ]
   ·rw [if_neg hin,if_neg (by simp; omega),Array.getElem?_setIfInBounds,if_neg (by omega)]
def fillA (place : Nat → Option (Nat × Nat)) (n : Nat) : List (Nat × AV) → AV → Option AV
 | [],t => some t
 | (i,v) :: l,t => match place i,rowA v with
  | some (off,size),some (m,s) => bif Nat.beq m size && Nat.ble (off + m) n then fillA place n l (cblit (lg n) t off m s) else none
  | _,_ => none
theorem RowRel.blit {n m off : Nat} {t s : AV} {cs vs : Array Value} (h : RowRel σ n t cs) (hv : RowRel σ m s vs) (ho : off + m ≤ n) :
  RowRel σ n (cblit (lg n) t off m s) (vs.zipIdx.foldl (fun cs (x : Value × Nat) => cs.setIfInBounds (off + x.2) x.1) cs) := by
 have e : vs.zipIdx.foldl (fun (cs : Array Value) (x : Value × Nat) => cs.setIfInBounds (off + x.2) x.1) cs = (vs.toList.zipIdx 0).foldl (fun (cs : Array Value) (x : Value × Nat) => cs.setIfInBounds (off + x.2) x.1) cs := by
  rw [← Array.foldl_toList,Array.toList_zipIdx]
 rw [e]
 obtain ⟨h1,h2⟩ := zip_set (vs := vs.toList) 0 off cs
 have hlen : vs.toList.length = m := by simpa using hv.1
 have hb : off + 0 + vs.toList.length ≤ cs.size := by rw [hlen,h.1]; omega
 have hn := lg_le n
 refine ⟨h1.trans h.1,fun i v hi => ?_,fun i v hi => ?_⟩
 ·rw [h2 i hb] at hi
  split at hi
  ·exact hv.2.1 (i - (off + 0)) v (by simpa using hi)
  ·exact h.2.1 i v hi
 ·have hlt : i < n := by
   have := (Array.getElem?_eq_some_iff.1 hi).1
   rw [h1,h.1] at this; exact this
  rw [h2 i hb,hlen] at hi
  rw [cget_cblit (by omega) (by omega)]
  simp only [Nat.add_zero] at hi
  split at hi
  ·rename_i hc
   rw [if_pos hc]
   exact hv.2.2 (i - off) v (by simpa using hi)
  ·rename_i hc
   rw [if_neg hc]
   exact h.2.2 i v hi
theorem fillA_ok {place : Nat → Option (Nat × Nat)} {n : Nat} : ∀ {ps : List (Nat × AV)} {vs : List (Nat × Value)} {t t' : AV} {cs : Array Value},(ps.length = vs.length) →
  (∀ (i : Nat) p q,ps[i]? = some p → vs[i]? = some q → p.1 = q.1 ∧ Rel σ p.2 q.2) → RowRel σ n t cs → fillA place n ps t = some t' → ∃ cs',Instr.fill place cs vs = some cs' ∧ RowRel σ n t' cs'
 | [],[],t,t',cs,_,_,hr,h => by
  simp only [fillA,Option.some.injEq] at h
  subst h
  exact ⟨cs,rfl,hr⟩
 | (i,a) :: ps,(j,v) :: vs,t,t',cs,hl,hp,hr,h => by
  obtain ⟨hij,hav⟩ := hp 0 (i,a) (j,v) rfl rfl
  simp only at hij hav
  subst hij
  unfold fillA at h
  split at h
  ·rename_i off size m s h1 h2
   cases hb : (Nat.beq m size && Nat.ble (off + m) n) with
   | false => simp [hb] at h
   | true =>
    simp only [hb,cond_true] at h
    simp only [Bool.and_eq_true] at hb
    have e1 := beqn_iff.1 hb.1
    have e2 := ble_iff.1 hb.2
    have hrow := rowA_ok hav h2
    obtain ⟨cs',h3,h4⟩ := fillA_ok (place := place) (vs := vs) (by simpa using hl) (fun k p q hk hk' => hp (k + 1) p q (by simpa using hk) (by simpa using hk')) (hr.blit hrow e2) h
    refine ⟨cs',?_,h4⟩
    unfold Instr.fill
    simp only [h1]
    have c1 : ¬ (v.cells.size ≠ size) := by rw [hrow.1]; omega
    have c2 : ¬ (off + v.cells.size > cs.size) := by rw [hrow.1,hr.1]; omega
    simp only [c1,c2,decide_false,Bool.or_self,Bool.false_eq_true,if_false]
    exact h3
  ·cases h
 | [],_ :: _,_,_,_,hl,_,_,_ => by simp at hl
 | _ :: _,[],_,_,_,hl,_,_,_ => by simp at hl
end
end I
end Go.Proofs.YtojefiolcedigaaGreatDoor
namespace Go.Proofs.YtojefiolcedigaaGreatDoor
namespace I
open K (one aggB run_underlying' run_sizeOf' add_none run_v)
set_option linter.unusedVariables false
def isA : TypeDesc → Bool
 | .struct _ | .array _ _ => true
 | _ => false
def apartA (P : Program) (ty : TypeId) (n : Nat) (t : AV) (off : Nat) : Option AV :=
 match P.underlying ty,P.info? ty with
 | some d,some inf => bif isA d then
   bif Nat.ble (off + inf.size) n then some (.agg inf.size (crow (lg n) t off inf.size)) else none
  else bif Nat.blt off n then some (cget (lg n) t off) else none
 | _,_ => none
section
variable {P : Program} {σ : Sg} {w : World}
theorem run_isA {ty : TypeId} {d : TypeDesc} (h : P.underlying ty = some d) : (isAgg ty).run P w = .ok (isA d) w := by
 simp only [isAgg,Sem.run_bind,run_underlying' h,Result.andThen_ok]
 cases d <;> rfl
theorem RowRel.sub {n m off : Nat} {t : AV} {cs : Array Value} (h : RowRel σ n t cs) (ho : off + m ≤ n) : RowRel σ m (crow (lg n) t off m) (cs.extract off (off + m)) := by
 have hn := lg_le n
 have hsz : (cs.extract off (off + m)).size = m := by simp [h.1]; omega
 have hget : ∀ (i : Nat) v,(cs.extract off (off + m))[i]? = some v → i < m ∧ cs[off + i]? = some v := by
  intro i v hv
  have hi : i < m := by rw [← hsz]; exact (Array.getElem?_eq_some_iff.1 hv).1
  refine ⟨hi,?_⟩
  rw [Array.getElem?_extract,h.1] at hv
  split at hv
  ·exact hv
  ·cases hv
 refine ⟨hsz,fun i v hv => h.2.1 _ v (hget i v hv).2,fun i v hv => ?_⟩
 obtain ⟨hi,hv⟩ := hget i v hv
 rw [cget_crow (by omega) hi]
 exact h.2.2 _ v hv
theorem apartA_ok {ty : TypeId} {n off : Nat} {t a : AV} {cs : Array Value} (hr : RowRel σ n t cs) (h : apartA P ty n t off = some a) : ∃ v,Rel σ a v ∧ (part ty cs off).run P w = .ok v w := by
 unfold apartA at h
 split at h
 ·rename_i d inf hu hi
  cases hd : isA d with
  | true =>
   simp only [hd,cond_true] at h
   cases hb : Nat.ble (off + inf.size) n with
   | false => simp [hb] at h
   | true =>
    simp only [hb,cond_true,Option.some.injEq] at h
    subst h
    have hs := hr.sub (m := inf.size) (ble_iff.1 hb)
    refine ⟨_,.agg _ _ _ hs.1 hs.2.1 hs.2.2,?_⟩
    simp [part,run_isA hu,hd,run_sizeOf' hi]
  | false =>
   simp only [hd,cond_false] at h
   cases hb : Nat.blt off n with
   | false => simp [hb] at h
   | true =>
    simp only [hb,cond_true,Option.some.injEq] at h
    subst h
    have hlt := blt_iff.1 hb
    have hg : cs[off]? = some (cs[off]'(by rw [hr.1]; exact hlt)) := Array.getElem?_eq_getElem _
    refine ⟨_,hr.2.2 off _ hg,?_⟩
    simp [part,run_isA hu,hd,hg]
 ·cases h
def bndA (x : Option AV) (dflt : Nat) : Option Nat :=
 match x with
 | none => some dflt
 | some (.int _ (.ofNat n)) => some n
 | _ => none
theorem run_sliceBound {k : IntKind} {n y : Nat} {code : BoundsCode} (h : n ≤ y) : (Instr.sliceBound (.int k (n : Int)) y code).run P w = .ok n w := by
 have := K.run_sliceBound (P := P) (w := w) (x := .int k (n : Int)) (y := y) (code := code) rfl (by omega) (by simpa using h)
 simpa using this
theorem run_bounds {isS : Bool} {len cap l h : Nat} {lo hi : Option AV} {lo' hi' : Option Value} (hl : bndA lo 0 = some l) (hh : bndA hi len = some h) (h1 : l ≤ h) (h2 : h ≤ cap)
  (rl : ∀ a v,lo = some a → lo' = some v → Rel σ a v) (rh : ∀ a v,hi = some a → hi' = some v → Rel σ a v) (nl : lo.isSome = lo'.isSome) (nh : hi.isSome = hi'.isSome) :
  (Instr.sliceBounds isS len cap lo' hi' none).run P w = .ok (l,h,cap) w := by
 have key : ∀ (x : Option AV) (x' : Option Value) (d m : Nat),bndA x d = some m → (∀ a v,x = some a → x' = some v → Rel σ a v) → x.isSome = x'.isSome → (x' = none ∧ m = d) ∨ ∃ k,x' = some (.int k (.ofNat m)) := by
  intro x x' d m hb hr hn
  cases x with
  | none =>
   cases x' with
   | none => simp only [bndA,Option.some.injEq] at hb; exact .inl ⟨rfl,hb.symm⟩
   | some v => simp at hn
  | some a =>
   cases x' with
   | none => simp at hn
   | some v =>
    have hr' := hr a v rfl rfl
    unfold bndA at hb
    split at hb
    ·rename_i he; cases he
    ·rename_i k q he
     simp only [Option.some.injEq] at he hb
     subst he; subst hb
     cases hr' with
     | int _ _ => exact .inr ⟨k,rfl⟩
    ·cases hb
 unfold Instr.sliceBounds
 rcases key lo lo' 0 l hl rl nl with ⟨rfl,rfl⟩ | ⟨k,rfl⟩ <;> rcases key hi hi' len h hh rh nh with ⟨rfl,rfl⟩ | ⟨k',rfl⟩ <;>
  simp [run_sliceBound h1,run_sliceBound h2]
def asliceA (P : Program) (ty : TypeId) (x : AV) (lo hi : Option AV) : Option AV :=
 match P.underlying ty,x with
 | some .string,.str n s => match bndA lo 0,bndA hi n with
  | some l,some h => bif Nat.ble l h && Nat.ble h n then some (.str (h - l) (s / 256 ^ (n - h) % 256 ^ (h - l))) else none
  | _,_ => none
 | some (.slice e),.sl b off len lb sz => match bndA lo 0,bndA hi len,P.info? e with
  | some l,some h,some inf => bif Nat.beq inf.size sz && (Nat.ble l h && Nat.ble h lb) then some (.sl b (off + l * sz) (h - l) (lb - l) sz) else none
  | _,_,_ => none
 | some (.slice e),.nils => match bndA lo 0,bndA hi 0,P.info? e with
  | some 0,some 0,some _ => some .nils
  | _,_,_ => none
 | some (.array n e),.ptr b off => match bndA lo 0,bndA hi n,P.info? e with
  | some l,some h,some inf => bif Nat.ble l h && Nat.ble h n then some (.sl b (off + l * inf.size) (h - l) (n - l) inf.size) else none
  | _,_,_ => none
 | _,_ => none
theorem addr_if (b off l m cap : Nat) : (if cap = l then (⟨b,off,none⟩ : Addr) else Addr.add ⟨b,off,none⟩ m) = ⟨b,if cap = l then off else off + m,none⟩ := K.addr_if b off l m cap
theorem asliceA_ok {ty : TypeId} {x a : AV} {vx : Value} {lo hi : Option AV} {lo' hi' : Option Value} (h : asliceA P ty x lo hi = some a) (hx : Rel σ x vx)
  (rl : ∀ a v,lo = some a → lo' = some v → Rel σ a v) (rh : ∀ a v,hi = some a → hi' = some v → Rel σ a v) (nl : lo.isSome = lo'.isSome) (nh : hi.isSome = hi'.isSome)
  (hsz : ∀ b off n e,x = .ptr b off → P.underlying ty = some (.array n e) → ∀ inf,P.info? e = some inf → ∀ r base size,σ b = some (r,base,size) → base + off + n * inf.size ≤ size) :
  ∃ v,Rel σ a v ∧ (Instr.sliceAt ty vx lo' hi' none).run P w = .ok v w := by
 unfold asliceA at h
 split at h
 ·rename_i n s hu
  cases hx with
  | str t _ _ hn hs =>
  split at h
  ·rename_i l hh h1 h2
   cases hb : (Nat.ble l hh && Nat.ble hh n) with
   | false => simp [hb] at h
   | true =>
    simp only [hb,cond_true,Option.some.injEq] at h
    simp only [Bool.and_eq_true] at hb
    have e1 := ble_iff.1 hb.1
    have e2 := ble_iff.1 hb.2
    subst hn
    have hr := run_bounds (P := P) (w := w) (isS := false) (cap := t.size) h1 h2 e1 e2 rl rh nl nh
    refine ⟨.string (t.extract l hh),?_,?_⟩
    ·subst h
     have hd : (t.extract l hh).data.toList = (t.data.toList.drop l).take (hh - l) := by
      simp [ByteArray.extract,ByteArray.copySlice]
     refine .str _ _ _ (by simp [ByteArray.size_extract]; omega) ?_
     rw [hd,val_extract e1 (by simpa using e2),hs]
     simp
    ·simp [Instr.sliceAt,run_underlying' hu,Instr.slice,hr]
  ·cases h
 ·rename_i e b off len lb sz hu
  cases hx with
  | sl _ _ _ _ _ r base size o cap hb h1 h2 h3 h4 =>
  split at h
  ·rename_i l hh inf q1 q2 q3
   cases hc : (Nat.beq inf.size sz && (Nat.ble l hh && Nat.ble hh lb)) with
   | false => simp [hc] at h
   | true =>
    simp only [hc,cond_true,Option.some.injEq] at h
    simp only [Bool.and_eq_true] at hc
    have e0 := beqn_iff.1 hc.1
    have e1 := ble_iff.1 hc.2.1
    have e2 := ble_iff.1 hc.2.2
    have hr := run_bounds (P := P) (w := w) (isS := true) (cap := cap) q1 q2 e1 (by omega) rl rh nl nh
    subst h
    refine ⟨.slice (some ⟨r,if cap = l then o else o + l * sz,none⟩) (hh - l) (cap - l),.sl _ _ _ _ _ r base size _ _ hb (by omega) (by omega) (fun hne => ?_) ?_,?_⟩
    ·rw [if_neg (by omega),h3 (by omega)]; omega
    ·split
     ·rename_i hcl; subst hcl; simp; omega
     ·have : l * sz + (cap - l) * sz = cap * sz := by rw [← Nat.add_mul]; congr 1; omega
      omega
    ·simp only [Instr.sliceAt,Sem.run_bind,run_underlying' hu,Result.andThen_ok,Instr.slice,hr,run_sizeOf' q3,Option.map_some,e0]
     rw [← addr_if]
     split <;> rfl
  ·cases h
 ·rename_i e hu
  cases hx
  split at h
  ·rename_i inf q1 q2 q3
   simp only [Option.some.injEq] at h
   subst h
   have hr := run_bounds (P := P) (w := w) (isS := true) (cap := 0) q1 q2 (Nat.le_refl _) (Nat.le_refl _) rl rh nl nh
   exact ⟨_,.nils,by simp [Instr.sliceAt,run_underlying' hu,Instr.slice,hr,run_sizeOf' q3]⟩
  ·cases h
 ·rename_i n e b off hu
  cases hx with
  | ptr _ _ r base size o hb ho =>
  split at h
  ·rename_i l hh inf q1 q2 q3
   cases hc : (Nat.ble l hh && Nat.ble hh n) with
   | false => simp [hc] at h
   | true =>
    simp only [hc,cond_true,Option.some.injEq] at h
    simp only [Bool.and_eq_true] at hc
    have e1 := ble_iff.1 hc.1
    have e2 := ble_iff.1 hc.2
    have hr := run_bounds (P := P) (w := w) (isS := false) (cap := n) q1 q2 e1 e2 rl rh nl nh
    have hsz' := hsz b off n e rfl hu inf q3 r base size hb
    subst h
    refine ⟨.slice (some ⟨r,if n = l then o else o + l * inf.size,none⟩) (hh - l) (n - l),.sl _ _ _ _ _ r base size _ _ hb (by omega) (by omega) (fun hne => ?_) ?_,?_⟩
    ·rw [if_neg (by omega)]; omega
    ·split
     ·rename_i hcl; subst hcl; simp; have : o ≤ o + n * inf.size := by omega
      omega
     ·have : l * inf.size + (n - l) * inf.size = n * inf.size := by rw [← Nat.add_mul]; congr 1; omega
      omega
    ·simp only [Instr.sliceAt,Sem.run_bind,run_underlying' hu,Result.andThen_ok,Instr.sureAddr,Sem.run_pure,hr,run_sizeOf' q3]
     rw [← addr_if]
  ·cases h
 ·cases h
end
end I
end Go.Proofs.YtojefiolcedigaaGreatDoor
namespace Go.Proofs.YtojefiolcedigaaGreatDoor
namespace I
open K (one aggB run_underlying' run_sizeOf' add_none run_v)
set_option linter.unusedVariables false
section
variable {P : Program} {σ : Sg} {w : World}
def bytesO (d : Nat) (t : AV) : Nat → Nat → Nat → Option Nat
 | 0,_,a => some a
 | n + 1,i,a => match cget d t i with
  | .int .u8 (.ofNat x) => bif Nat.ble x 255 then bytesO d t n (i + 1) (a * 256 + x) else none
  | _ => none
theorem bytesO_ok {d : Nat} {t : AV} {cs : Array Value} {base : Nat} : ∀ {n i a x : Nat},bytesO d t n i a = some x → (∀ j,i ≤ j → j < i + n → ∃ v,cs[base + j]? = some v ∧ Rel σ (cget d t j) v) →
  ∃ l : List UInt8,l.length = n ∧ x = strOf l a ∧ ∀ j,j < n → cs[base + (i + j)]? = some (.int .u8 ((l.getD j 0).toNat : Int))
 | 0,i,a,x,h,_ => by simp only [bytesO,Option.some.injEq] at h; subst h; exact ⟨[],rfl,rfl,fun j hj => by omega⟩
 | n + 1,i,a,x,h,hc => by
  unfold bytesO at h
  split at h
  ·rename_i y hy
   cases hb : Nat.ble y 255 with
   | false => simp [hb] at h
   | true =>
    simp only [hb,cond_true] at h
    have hy255 := ble_iff.1 hb
    obtain ⟨v,hv,hr⟩ := hc i (Nat.le_refl _) (by omega)
    rw [hy] at hr
    cases hr
    obtain ⟨l,h1,h2,h3⟩ := bytesO_ok h (fun j hj hj' => hc j (by omega) (by omega))
    have e : (UInt8.ofNat y).toNat = y := by simp; omega
    refine ⟨UInt8.ofNat y :: l,by simp [h1],?_,fun j hj => ?_⟩
    ·rw [strOf,e]; exact h2
    ·cases j with
     | zero => simp only [Nat.add_zero,List.getD_cons_zero,e]; exact hv
     | succ j =>
      have := h3 j (by omega)
      rw [List.getD_cons_succ,← this]
      congr 1; omega
  ·cases h
def bytesT : Nat → AV → Option Nat
 | 0,.int .u8 (.ofNat x) => bif Nat.ble x 255 then some x else none
 | d + 1,.node l r => match bytesT d l,bytesT d r with
  | some a,some b => some (a * 256 ^ 2 ^ d + b)
  | _,_ => none
 | d + 1,.uni (.int .u8 (.ofNat x)) => bif Nat.ble x 255 then some (x * ((256 ^ 2 ^ (d + 1) - 1) / 255)) else none
 | _,_ => none
theorem val_rep (x : UInt8) : ∀ n,val (List.replicate n x) * 255 = x.toNat * (256 ^ n - 1)
 | 0 => by simp [val,strOf]
 | n + 1 => by
  rw [List.replicate_succ,val_cons,Nat.add_mul,val_rep x n,List.length_replicate]
  have h : 1 ≤ 256 ^ n := Nat.one_le_pow _ _ (by decide)
  rw [Nat.pow_succ,Nat.mul_assoc,← Nat.mul_add]
  congr 1
  omega
theorem val_rep' (x : UInt8) (n : Nat) : val (List.replicate n x) = x.toNat * ((256 ^ n - 1) / 255) := by
 have h := val_rep x n
 have hd : 255 ∣ 256 ^ n - 1 := by
  have := val_rep 1 n
  exact ⟨val (List.replicate n 1),by rw [Nat.mul_comm 255,this]; simp⟩
 obtain ⟨q,hq⟩ := hd
 rw [hq] at h ⊢
 rw [Nat.mul_div_cancel_left _ (by decide)]
 have : val (List.replicate n x) * 255 = (x.toNat * q) * 255 := by rw [h,Nat.mul_comm 255 q,Nat.mul_assoc]
 exact Nat.eq_of_mul_eq_mul_right (by decide) this
theorem bytesT_ok : ∀ {d : Nat} {t : AV} {x : Nat},bytesT d t = some x → ∃ l : List UInt8,l.length = 2 ^ d ∧ x = val l ∧ ∀ j,j < 2 ^ d → cget d t j = .int .u8 (.ofNat (l.getD j 0).toNat)
 | 0,t,x,h => by
  unfold bytesT at h
  split at h
  ·rename_i y heq
   cases hb : Nat.ble y 255 with
   | false => simp [hb] at h
   | true =>
    simp only [hb,cond_true,Option.some.injEq] at h
    subst h
    have hy := ble_iff.1 hb
    refine ⟨[UInt8.ofNat y],rfl,by simp [val,strOf]; omega,fun j hj => ?_⟩
    have : j = 0 := by simpa using hj
    subst this
    show AV.int .u8 (.ofNat y) = _
    simp; omega
  ·rename_i heq; cases heq
  ·rename_i heq; cases heq
  ·cases h
 | d + 1,t,x,h => by
  unfold bytesT at h
  split at h
  ·rename_i heq; cases heq
  ·rename_i d' l r heq
   cases heq
   split at h
   ·rename_i a b ha hb
    simp only [Option.some.injEq] at h
    subst h
    obtain ⟨la,a1,a2,a3⟩ := bytesT_ok ha
    obtain ⟨lb,b1,b2,b3⟩ := bytesT_ok hb
    refine ⟨la ++ lb,by rw [List.length_append,a1,b1,Nat.pow_succ]; omega,by rw [val_append,b1,a2,b2],fun j hj => ?_⟩
    rw [Nat.pow_succ] at hj
    simp only [cget]
    by_cases hj2 : j < 2 ^ d
    ·rw [blt_iff.2 hj2,cond_true,a3 j hj2,List.getD_eq_getElem?_getD,List.getD_eq_getElem?_getD,List.getElem?_append_left (by omega)]
    ·rw [blt_false.2 (by omega),cond_false,b3 (j - 2 ^ d) (by omega),List.getD_eq_getElem?_getD,List.getD_eq_getElem?_getD,List.getElem?_append_right (by omega),a1]
   ·cases h
  ·rename_i d' y heq
   cases heq
   cases hb : Nat.ble y 255 with
   | false => simp [hb] at h
   | true =>
    simp only [hb,cond_true,Option.some.injEq] at h
    subst h
    have hy := ble_iff.1 hb
    have e : (UInt8.ofNat y).toNat = y := by simp; omega
    refine ⟨List.replicate (2 ^ (d + 1)) (UInt8.ofNat y),List.length_replicate,by rw [val_rep',e],fun j hj => ?_⟩
    simp only [cget]
    rw [List.getD_eq_getElem?_getD,List.getElem?_replicate,if_pos hj,Option.getD_some,e]
  ·cases h
def bytesOf (d : Nat) (t : AV) (n i a : Nat) : Option Nat :=
 bif Nat.beq n (2 ^ lg n) && (Nat.beq (i % 2 ^ lg n) 0 && (Nat.ble (lg n) d && Nat.ble (i + n) (2 ^ d))) then
  match bytesT (lg n) (csub d (lg n) t i) with
  | some x => some (a * 256 ^ n + x)
  | none => none
 else bytesO d t n i a
theorem bytesOf_ok {d : Nat} {t : AV} {cs : Array Value} {base : Nat} {n i a x : Nat} (h : bytesOf d t n i a = some x) (hc : ∀ j,i ≤ j → j < i + n → ∃ v,cs[base + j]? = some v ∧ Rel σ (cget d t j) v) :
  ∃ l : List UInt8,l.length = n ∧ x = strOf l a ∧ ∀ j,j < n → cs[base + (i + j)]? = some (.int .u8 ((l.getD j 0).toNat : Int)) := by
 unfold bytesOf at h
 cases hb : (Nat.beq n (2 ^ lg n) && (Nat.beq (i % 2 ^ lg n) 0 && (Nat.ble (lg n) d && Nat.ble (i + n) (2 ^ d)))) with
 | false => rw [hb] at h; exact bytesO_ok h hc
 | true =>
  rw [hb] at h
  simp only [cond_true] at h
  simp only [Bool.and_eq_true] at hb
  have e1 := beqn_iff.1 hb.1
  have e2 := beqn_iff.1 hb.2.1
  have e3 := ble_iff.1 hb.2.2.1
  have e4 := ble_iff.1 hb.2.2.2
  split at h
  ·rename_i y hy
   simp only [Option.some.injEq] at h
   subst h
   obtain ⟨l,h1,h2,h3⟩ := bytesT_ok hy
   refine ⟨l,by rw [h1,← e1],by rw [strOf_eq,h1,← e1,h2],fun j hj => ?_⟩
   obtain ⟨v,hv,hr⟩ := hc (i + j) (by omega) (by omega)
   have h4 := h3 j (by omega)
   rw [cget_csub d (lg n) t i j e3 e2 (by omega) (by omega)] at h4
   rw [h4] at hr
   cases hr
   exact hv
  ·cases h
def strT : Nat → Nat → AV
 | 0,x => .int .u8 (.ofNat (x % 256))
 | _ + 1,0 => .uni (.int .u8 (.ofNat 0))
 | d + 1,y + 1 => .node (strT d ((y + 1) / 256 ^ 2 ^ d)) (strT d ((y + 1) % 256 ^ 2 ^ d))
theorem cget_strT : ∀ (d x i : Nat),i < 2 ^ d → cget d (strT d x) i = .int .u8 (.ofNat (x / 256 ^ (2 ^ d - 1 - i) % 256))
 | 0,x,i,hi => by
  have : i = 0 := by simpa using hi
  subst this
  simp [strT,cget]
 | d + 1,0,i,hi => by simp [strT,cget]
 | d + 1,y + 1,i,hi => by
  rw [Nat.pow_succ] at hi
  simp only [strT,cget]
  by_cases h2 : i < 2 ^ d
  ·rw [blt_iff.2 h2,cond_true,cget_strT d _ i h2,Nat.div_div_eq_div_mul,← Nat.pow_add,Nat.pow_succ,show 2 ^ d + (2 ^ d - 1 - i) = 2 ^ d * 2 - 1 - i by omega]
  ·rw [blt_false.2 (by omega),cond_false,cget_strT d _ (i - 2 ^ d) (by omega)]
   have e1 : 2 ^ (d + 1) - 1 - i = 2 ^ d - 1 - (i - 2 ^ d) := by rw [Nat.pow_succ]; omega
   rw [e1]
   congr 2
   have hlt : 2 ^ d - 1 - (i - 2 ^ d) < 2 ^ d := by omega
   generalize 2 ^ d - 1 - (i - 2 ^ d) = e at hlt
   rw [show 2 ^ d = e + (2 ^ d - e) by omega,Nat.pow_add,Nat.mod_mul_right_div_self,Nat.mod_mod_of_dvd]
   exact Nat.dvd_trans (by rw [Nat.pow_one]; exact Nat.dvd_refl _) (Nat.pow_dvd_pow 256 (show 1 ≤ 2 ^ d - e by omega))
def strN (n x : Nat) : AV := strT (lg n) (x * 256 ^ (2 ^ lg n - n))
theorem cget_strN {n x i : Nat} (hi : i < n) : cget (lg n) (strN n x) i = .int .u8 (.ofNat (sbyte n x i)) := by
 have hn := lg_le n
 unfold strN sbyte
 rw [cget_strT _ _ _ (by omega)]
 congr 2
 rw [show 2 ^ lg n - 1 - i = (2 ^ lg n - n) + (n - 1 - i) by omega,Nat.pow_add,← Nat.div_div_eq_div_mul,Nat.mul_div_cancel _ (Nat.pow_pos (by decide))]
theorem sbyte_take {k m x i : Nat} (hk : k ≤ m) (hi : i < k) : sbyte k (x / 256 ^ (m - k)) i = sbyte m x i := by
 unfold sbyte
 rw [Nat.div_div_eq_div_mul,← Nat.pow_add,show m - k + (k - 1 - i) = m - 1 - i by omega]
def eqOp (op : BinOp) (b : Bool) : Option AV :=
 match op with
 | .eql => some (.bool b)
 | .neq => some (.bool (!b))
 | _ => none
theorem run_eqOp {op : BinOp} {b : Bool} {ty : TypeId} {x y : Value} {a : AV} (h : eqOp op b = some a) (hx : (∃ c,x = .bool c) ∨ (∃ p,x = .pointer p) ∨ (∃ cs,x = .agg cs) ∨ (∃ p n c,x = .slice p n c) ∨ (∃ m,x = .map m))
  (he : (Op.equal ty x y).run P w = .ok b w) : ∃ v,Rel σ a v ∧ (binOp op ty x y).run P w = .ok v w := by
 unfold eqOp at h
 split at h
 ·simp only [Option.some.injEq] at h; subst h
  refine ⟨_,.bool _,?_⟩
  rcases hx with ⟨c,rfl⟩ | ⟨p,rfl⟩ | ⟨cs,rfl⟩ | ⟨p,n,c,rfl⟩ | ⟨m,rfl⟩ <;> simp [binOp,he]
 ·simp only [Option.some.injEq] at h; subst h
  refine ⟨_,.bool _,?_⟩
  rcases hx with ⟨c,rfl⟩ | ⟨p,rfl⟩ | ⟨cs,rfl⟩ | ⟨p,n,c,rfl⟩ | ⟨m,rfl⟩ <;> simp [binOp,he]
 ·cases h
def aeq (P : Program) (ty : TypeId) (x y : AV) : Option Bool :=
 match P.underlying ty,x,y with
 | some .bool,.bool a,.bool b => some (a == b)
 | some (.pointer _),.nilp,.nilp => some true
 | some (.pointer _),.nilp,.ptr _ _ => some false
 | some (.pointer _),.ptr _ _,.nilp => some false
 | some (.pointer e),.ptr b o,.ptr b' o' => match P.info? e with
  | some inf => bif Nat.beq inf.size 0 || !(Nat.beq b b') then none else some (Nat.beq o o')
  | none => none
 | some (.slice _),.nils,.nils => some true
 | some (.slice _),.nils,.sl .. => some false
 | some (.slice _),.sl ..,.nils => some false
 | some (.map _ _),.nilm,.nilm => some true
 | some (.map _ _),.nilm,.map _ => some false
 | some (.map _ _),.map _,.nilm => some false
 | some (.array len e),.agg n t,.agg m u => match P.underlying e,P.info? e with
  | some (.int .u8),some inf => bif Nat.beq inf.size 1 && (Nat.beq n len && (Nat.beq m len && !(P.eqGuardType P.depth ty))) then
    match bytesOf (lg n) t n 0 0,bytesOf (lg m) u m 0 0 with
    | some a,some b => some (Nat.beq a b)
    | _,_ => none
   else none
  | _,_ => none
 | _,_,_ => none
theorem row_bytes {n x : Nat} {t : AV} {cs : Array Value} (hr : RowRel σ n t cs) (h : bytesOf (lg n) t n 0 0 = some x) : ∃ l : List UInt8,l.length = n ∧ x = val l ∧ cs = K.bv l := by
 obtain ⟨l,h1,h2,h3⟩ := bytesOf_ok (cs := cs) (base := 0) (σ := σ) h (fun j _ hj => by
  have hlt : j < cs.size := by rw [hr.1]; omega
  refine ⟨cs[j],by simp [hlt],hr.2.2 j _ (Array.getElem?_eq_getElem hlt)⟩)
 refine ⟨l,h1,h2,?_⟩
 apply Array.ext_getElem?
 intro i
 by_cases hi : i < n
 ·have := h3 i hi
  simp only [Nat.zero_add] at this
  rw [this,K.bv_get h1 hi]
 ·rw [Array.getElem?_eq_none (by rw [hr.1]; omega),Array.getElem?_eq_none (by rw [K.bv_size]; omega)]
theorem aeq_ok {ty : TypeId} {x y : AV} {vx vy : Value} {b : Bool} (h : aeq P ty x y = some b) (hx : Rel σ x vx) (hy : Rel σ y vy) :
  (Op.equal ty vx vy).run P w = .ok b w ∧ ((∃ c,vx = .bool c) ∨ (∃ p,vx = .pointer p) ∨ (∃ cs,vx = .agg cs) ∨ (∃ p n c,vx = .slice p n c) ∨ (∃ m,vx = .map m)) ∧ (∀ op p q,(eqGuard op ty p q vx vy).run P w = .ok () w) := by
 unfold aeq at h
 split at h
 ·rename_i c c' hu
  simp only [Option.some.injEq] at h; subst h
  cases hx; cases hy
  exact ⟨K.run_equal_bool hu,.inl ⟨_,rfl⟩,fun op p q => by cases op <;> rfl⟩
 ·rename_i e hu
  simp only [Option.some.injEq] at h; subst h
  cases hx; cases hy
  exact ⟨K.run_equal_nil hu,.inr (.inl ⟨_,rfl⟩),fun op p q => by cases op <;> rfl⟩
 ·rename_i e b' o' hu
  simp only [Option.some.injEq] at h; subst h
  cases hx; cases hy
  refine ⟨?_,.inr (.inl ⟨_,rfl⟩),fun op p q => by cases op <;> rfl⟩
  show (Op.equalIn (9999 + 1) ty _ _).run P w = _
  rw [Op.equalIn]
  simp only [Sem.run_bind,run_underlying' hu,Result.andThen_ok,Sem.run_pure,Option.isNone]
 ·rename_i e b' o' hu
  simp only [Option.some.injEq] at h; subst h
  cases hx; cases hy
  exact ⟨K.run_equal_nil hu,.inr (.inl ⟨_,rfl⟩),fun op p q => by cases op <;> rfl⟩
 ·rename_i e b1 o1 b2 o2 hu
  split at h
  ·rename_i inf hi
   cases hb : (Nat.beq inf.size 0 || !(Nat.beq b1 b2)) with
   | true => simp [hb] at h
   | false =>
    simp only [hb,cond_false,Option.some.injEq] at h
    simp only [Bool.or_eq_false_iff,Bool.not_eq_false'] at hb
    have h0 : ¬ inf.size = 0 := fun e => by rw [beqn_iff.2 e] at hb; simp at hb
    have h1 := beqn_iff.1 hb.2
    subst h1
    cases hx with
    | ptr _ _ r base size o hs ho =>
    cases hy with
    | ptr _ _ r' base' size' o' hs' ho' =>
    rw [hs] at hs'
    simp only [Option.some.injEq,Prod.mk.injEq] at hs'
    obtain ⟨rfl,rfl,rfl⟩ := hs'
    refine ⟨?_,.inr (.inl ⟨_,rfl⟩),fun op p q => by cases op <;> rfl⟩
    have e2 : ((⟨r,o,none⟩ : Addr) == ⟨r,o',none⟩) = b := by
     rw [← h,beqn_dec]
     apply Bool.eq_iff_iff.2
     simp; omega
    show (Op.equalIn (9999 + 1) ty _ _).run P w = _
    rw [Op.equalIn]
    have e3 : (sameAddr (⟨r,o,none⟩ : Addr) ⟨r,o',none⟩).run P w = .ok b w := by
     unfold sameAddr
     simp only [beq_self_eq_true,if_true,Sem.run_pure,e2]
    simp only [Sem.run_bind,run_underlying' hu,run_sizeOf' hi,Result.andThen_ok,ne_eq,h0,not_false_eq_true,if_true,e3]
  ·cases h
 ·rename_i e hu
  simp only [Option.some.injEq] at h; subst h
  cases hx; cases hy
  refine ⟨?_,.inr (.inr (.inr (.inl ⟨_,_,_,rfl⟩))),fun op p q => by cases op <;> rfl⟩
  show (Op.equalIn (9999 + 1) ty _ _).run P w = _
  rw [Op.equalIn]
  simp only [Sem.run_bind,run_underlying' hu,Result.andThen_ok,Sem.run_pure,Option.isNone]
 ·rename_i e hu
  simp only [Option.some.injEq] at h; subst h
  cases hx; cases hy
  refine ⟨?_,.inr (.inr (.inr (.inl ⟨_,_,_,rfl⟩))),fun op p q => by cases op <;> rfl⟩
  show (Op.equalIn (9999 + 1) ty _ _).run P w = _
  rw [Op.equalIn]
  simp only [Sem.run_bind,run_underlying' hu,Result.andThen_ok,Sem.run_pure,Option.isNone]
 ·rename_i e hu
  simp only [Option.some.injEq] at h; subst h
  cases hx; cases hy
  refine ⟨?_,.inr (.inr (.inr (.inl ⟨_,_,_,rfl⟩))),fun op p q => by cases op <;> rfl⟩
  show (Op.equalIn (9999 + 1) ty _ _).run P w = _
  rw [Op.equalIn]
  simp only [Sem.run_bind,run_underlying' hu,Result.andThen_ok,Sem.run_pure,Option.isNone]
 ·rename_i e e' hu
  simp only [Option.some.injEq] at h; subst h
  cases hx; cases hy
  refine ⟨?_,.inr (.inr (.inr (.inr ⟨_,rfl⟩))),fun op p q => by cases op <;> rfl⟩
  show (Op.equalIn (9999 + 1) ty _ _).run P w = _
  rw [Op.equalIn]
  simp only [Sem.run_bind,run_underlying' hu,Result.andThen_ok,Sem.run_pure,Option.isNone]
 ·rename_i e e' b' hu
  simp only [Option.some.injEq] at h; subst h
  cases hx; cases hy
  refine ⟨?_,.inr (.inr (.inr (.inr ⟨_,rfl⟩))),fun op p q => by cases op <;> rfl⟩
  show (Op.equalIn (9999 + 1) ty _ _).run P w = _
  rw [Op.equalIn]
  simp only [Sem.run_bind,run_underlying' hu,Result.andThen_ok,Sem.run_pure,Option.isNone]
 ·rename_i e e' b' hu
  simp only [Option.some.injEq] at h; subst h
  cases hx; cases hy
  refine ⟨?_,.inr (.inr (.inr (.inr ⟨_,rfl⟩))),fun op p q => by cases op <;> rfl⟩
  show (Op.equalIn (9999 + 1) ty _ _).run P w = _
  rw [Op.equalIn]
  simp only [Sem.run_bind,run_underlying' hu,Result.andThen_ok,Sem.run_pure,Option.isNone]
 ·rename_i len e n t m u hu
  split at h
  ·rename_i inf he hi
   cases hb : (Nat.beq inf.size 1 && (Nat.beq n len && (Nat.beq m len && !(P.eqGuardType P.depth ty)))) with
   | false => simp [hb] at h
   | true =>
    simp only [hb,cond_true] at h
    simp only [Bool.and_eq_true,Bool.not_eq_true'] at hb
    have h0 := beqn_iff.1 hb.1
    have h1 := beqn_iff.1 hb.2.1
    have h2 := beqn_iff.1 hb.2.2.1
    have hg := hb.2.2.2
    split at h
    ·rename_i a c ha hc
     simp only [Option.some.injEq] at h
     cases hx with
     | agg _ _ cs hn r1 r2 =>
     cases hy with
     | agg _ _ ds hm s1 s2 =>
     obtain ⟨l,hl,hv,rfl⟩ := row_bytes ⟨hn,r1,r2⟩ ha
     obtain ⟨l',hl',hv',rfl⟩ := row_bytes ⟨hm,s1,s2⟩ hc
     have := K.equal_bv (P := P) (w := w) hu he (by rw [hi]; simp [h0]) (hl.trans h1) (hl'.trans h2)
     refine ⟨?_,.inr (.inr (.inl ⟨_,rfl⟩)),fun op p q => run_eqGuard_agg (P := P) w op ty p q _ _ hg⟩
     rw [this,← h,hv,hv',beq_val (by omega)]
    ·cases h
  ·cases h
 ·cases h
end
end I
end Go.Proofs.YtojefiolcedigaaGreatDoor
namespace Go.Proofs.YtojefiolcedigaaGreatDoor
namespace I
open K (one aggB run_underlying' run_sizeOf' add_none run_v)
set_option linter.unusedVariables false
def isSh : BinOp → Bool
 | .shl | .shr => true
 | _ => false
def abin (P : Program) (op : BinOp) (ty : TypeId) (x y : AV) : Option AV :=
 match x,y with
 | .int k a,.int k' b => bif isSh op then shI op k a b else bif Nat.beq (kn k) (kn k') then binI op k a b else none
 | .str n a,.str m b => binS op n a m b
 | x,y => match aeq P ty x y with
  | some b => eqOp op b
  | none => none
def placeOf (P : Program) (fs : Array Field) (i : Nat) : Option (Nat × Nat) :=
 match fs[i]? with
 | some f => match P.info? f.type with
  | some inf => some (f.offset,inf.size)
  | none => none
 | none => none
def isItf : TypeDesc → Bool
 | .interface _ => true
 | _ => false
def apure (P : Program) (ρ : Operand → AV) (o : Oper) : Option AV :=
 match o.op with
 | .move x => some (ρ x)
 | .assign x => some (ρ x)
 | .pick c a b => match ρ c with
  | .bool t => some (bif t then ρ a else ρ b)
  | _ => none
 | .nilCheck x => match ρ x with
  | .ptr b off => some (.ptr b off)
  | .fn f a b => some (.fn f a b)
  | .ifc t v => some (.ifc t v)
  | _ => none
 | .binOp op ty x y _ => abin P op ty (ρ x) (ρ y)
 | .unOp .not _ x => match ρ x with
  | .bool b => some (.bool (!b))
  | _ => none
 | .unOp .neg _ x => match ρ x with
  | .int k n => some (.int k (wrapF k (0 - n)))
  | _ => none
 | .unOp .xor _ x => match ρ x with
  | .int k n => bif k.signed then none else binI .xor k (maxN k) n
  | _ => none
 | .convert src dst x => match P.underlying src,P.underlying dst,ρ x with
  | some _,some (.int k'),.int _ n => some (.int k' (wrapF k' n))
  | some _,some .string,.str n s => some (.str n s)
  | _,_,_ => none
 | .makeInterface t x => bif P.concrete t then some (.ifc t (ρ x)) else none
 | .makeFunc (.func f) first caps => some (.fn f (ofList (first.toList.map ρ)) (ofList (caps.toList.map ρ)))
 | .slice ty x lo hi none => match ρ x with
  | .ptr _ _ => none
  | a => asliceA P ty a (lo.map ρ) (hi.map ρ)
 | .fieldAddr s x f => match P.underlying s,ρ x with
  | some (.struct fs),.ptr b off => match fs[f]? with
   | some fl => match P.info? fl.type with
    | some inf => bif Nat.beq inf.size 0 then none else some (.ptr b (off + fl.offset))
    | none => none
   | none => none
  | _,_ => none
 | .field s x f => match P.underlying s,ρ x with
  | some (.struct fs),.agg n t => match fs[f]? with
   | some fl => apartA P fl.type n t fl.offset
   | none => none
  | _,_ => none
 | .indexAddr ty x ix => match P.underlying ty,ρ x,ρ ix with
  | some (.slice e),.sl b off len _ sz,.int _ (.ofNat i) => match P.info? e with
   | some inf => bif Nat.beq inf.size sz && Nat.blt i len then some (.ptr b (off + i * sz)) else none
   | none => none
  | some (.array len e),.ptr b off,.int _ (.ofNat i) => match P.info? e with
   | some inf => bif Nat.blt i len then some (.ptr b (off + i * inf.size)) else none
   | none => none
  | _,_,_ => none
 | .index ty x ix => match P.underlying ty,ρ x,ρ ix with
  | some .string,.str n s,.int _ (.ofNat i) => bif Nat.blt i n then some (.int .u8 (.ofNat (sbyte n s i))) else none
  | some (.array len e),.agg n t,.int _ (.ofNat i) => match P.info? e with
   | some inf => bif Nat.blt i len then apartA P e n t (i * inf.size) else none
   | none => none
  | _,_,_ => none
 | .extract t i => match ρ t with
  | .tup l => (toList l)[i]?
  | _ => none
 | .build t ps => match zeroA P t,P.underlying t with
  | .agg n z,some (.struct fs) => match fillA (placeOf P fs) n (ps.toList.map fun p => (p.1,ρ p.2)) z with
   | some u => bif (fs.all fun f => (P.info? f.type).isSome) then some (.agg n u) else none
   | none => none
  | .agg n z,some (.array _ e) => match P.info? e with
   | some inf => match fillA (fun i => some (i * inf.size,inf.size)) n (ps.toList.map fun p => (p.1,ρ p.2)) z with
    | some u => some (.agg n u)
    | none => none
   | none => none
  | _,_ => none
 | .call ⟨.builtin .len,⟨[x]⟩,⟨[ty]⟩⟩ => match P.underlying ty,ρ x with
  | some .string,.str n _ => some (.int .i64 (.ofNat n))
  | some (.slice _),.sl _ _ n _ _ => some (.int .i64 (.ofNat n))
  | some (.slice _),.nils => some (.int .i64 0)
  | some (.map _ _),.nilm => some (.int .i64 0)
  | some (.array n _),_ => some (.int .i64 (.ofNat n))
  | _,_ => none
 | .call ⟨.builtin .max,⟨[x,y]⟩,_⟩ => match ρ x,ρ y with
  | .int k a,.int _ b => some (.int k (bif ilt a b then b else a))
  | _,_ => none
 | .call ⟨.builtin .min,⟨[x,y]⟩,_⟩ => match ρ x,ρ y with
  | .int k a,.int _ b => some (.int k (bif ilt b a then b else a))
  | _,_ => none
 | .call ⟨.builtin .unsafeSliceData,⟨[x]⟩,_⟩ => match ρ x with
  | .sl b off _ lb _ => bif Nat.beq lb 0 then none else some (.ptr b off)
  | .nils => some .nilp
  | _ => none
 | .slice ty x lo (some hi) (some mx) => match P.underlying ty,ρ x,bndA (lo.map ρ) 0,bndA (some (ρ hi)) 0,bndA (some (ρ mx)) 0 with
  | some (.slice e),.sl b off len lb sz,some l,some h,some m => match P.info? e with
   | some inf => bif Nat.beq inf.size sz && (Nat.ble l h && (Nat.ble h m && Nat.ble m lb)) then some (.sl b (off + l * sz) (h - l) (m - l) sz) else none
   | none => none
  | _,_,_,_,_ => none
 | .typeAssert x _ t false => match P.underlying t,ρ x with
  | some d,.ifc t' v => bif isItf d || !(Nat.beq t' t) then none else some v
  | _,_ => none
 | .call ⟨.builtin .cap,⟨[x]⟩,⟨[ty]⟩⟩ => match P.underlying ty,ρ x with
  | some (.slice _),.nils => some (.int .i64 0)
  | _,_ => none
 | _ => none
section
variable {P : Program} {σ : Sg} {w : World}
theorem run_bounds3 {len cap l h m : Nat} {lo : Option AV} {hi mx : AV} {lo' : Option Value} {hi' mx' : Value} (hl : bndA lo 0 = some l) (hh : bndA (some hi) 0 = some h) (hm : bndA (some mx) 0 = some m) (h1 : l ≤ h) (h2 : h ≤ m) (h3 : m ≤ cap)
  (rl : ∀ a v,lo = some a → lo' = some v → Rel σ a v) (nl : lo.isSome = lo'.isSome) (rh : Rel σ hi hi') (rm : Rel σ mx mx') :
  (Instr.sliceBounds true len cap lo' (some hi') (some mx')).run P w = .ok (l,h,m) w := by
 have key : ∀ (a : AV) (v : Value) (n : Nat),bndA (some a) 0 = some n → Rel σ a v → ∃ k,v = .int k (.ofNat n) := by
  intro a v n hb hr
  unfold bndA at hb
  split at hb
  ·rename_i he; cases he
  ·rename_i k q he
   simp only [Option.some.injEq] at he hb
   subst he; subst hb
   cases hr with
   | int _ _ => exact ⟨k,rfl⟩
  ·cases hb
 obtain ⟨k1,rfl⟩ := key hi hi' h hh rh
 obtain ⟨k2,rfl⟩ := key mx mx' m hm rm
 unfold Instr.sliceBounds
 cases lo with
 | none =>
  cases lo' with
  | none =>
   simp only [bndA,Option.some.injEq] at hl
   subst hl
   simp [run_sliceBound h2,run_sliceBound h3]
  | some v => simp at nl
 | some a =>
  cases lo' with
  | none => simp at nl
  | some v =>
   obtain ⟨k3,rfl⟩ := key a v l hl (rl a v rfl rfl)
   simp [run_sliceBound h1,run_sliceBound h2,run_sliceBound h3]
theorem abin_ok {op : BinOp} {ty : TypeId} {x y a : AV} {vx vy : Value} (h : abin P op ty x y = some a) (hx : Rel σ x vx) (hy : Rel σ y vy) :
  ∃ v,Rel σ a v ∧ (binOp op ty vx vy).run P w = .ok v w ∧ ∀ p q,(eqGuard op ty p q vx vy).run P w = .ok () w := by
 unfold abin at h
 split at h
 ·rename_i k m k' n
  cases hx; cases hy
  have hg : ∀ p q,(eqGuard op ty p q (Value.int k m) (Value.int k' n)).run P w = .ok () w := fun p q => by cases op <;> rfl
  cases hs : isSh op with
  | true =>
   simp only [hs,cond_true] at h
   obtain ⟨v,h1,h2⟩ := shI_ok (P := P) (σ := σ) (w := w) (ty := ty) (k' := k') h
   exact ⟨v,h1,h2,hg⟩
  | false =>
   simp only [hs,cond_false] at h
   cases hk : Nat.beq (kn k) (kn k') with
   | false => simp [hk] at h
   | true =>
    simp only [hk,cond_true] at h
    have := kn_inj hk
    subst this
    obtain ⟨v,h1,h2⟩ := binI_ok (P := P) (σ := σ) (w := w) (ty := ty) h
    exact ⟨v,h1,h2,hg⟩
 ·cases hx with
  | str s _ _ hn hs =>
  cases hy with
  | str t _ _ hm ht =>
  subst hn; subst hs; subst hm; subst ht
  obtain ⟨v,h1,h2⟩ := binS_ok (P := P) (σ := σ) (w := w) (ty := ty) h
  exact ⟨v,h1,h2,fun p q => by cases op <;> rfl⟩
 ·split at h
  ·rename_i b hb
   obtain ⟨h1,h2,h3⟩ := aeq_ok (w := w) hb hx hy
   obtain ⟨v,h4,h5⟩ := run_eqOp (P := P) (w := w) (σ := σ) h h2 h1
   exact ⟨v,h4,h5,h3 op⟩
  ·cases h
theorem ofList_rel {ρ : Operand → AV} {ev : Operand → Value} (hρ : ∀ x,Rel σ (ρ x) (ev x)) (xs : Array Operand) :
  (toList (ofList (xs.toList.map ρ))).length = (xs.map ev).size ∧ ∀ (i : Nat) a v,(toList (ofList (xs.toList.map ρ)))[i]? = some a → (xs.map ev)[i]? = some v → Rel σ a v := by
 rw [toList_ofList]
 refine ⟨by simp,fun i a v ha hv => ?_⟩
 simp only [List.getElem?_map,Option.map_eq_some_iff,Array.getElem?_map] at ha hv
 obtain ⟨x,h1,rfl⟩ := ha
 obtain ⟨y,h2,rfl⟩ := hv
 have h1' : xs[i]? = some x := by simpa using h1
 rw [h1'] at h2
 simp only [Option.some.injEq] at h2
 subst h2
 exact hρ x
theorem parts_rel {ρ : Operand → AV} {ev : Operand → Value} (hρ : ∀ x,Rel σ (ρ x) (ev x)) (ps : Array (Nat × Operand)) :
  (ps.toList.map fun p => (p.1,ρ p.2)).length = (ps.map fun x => match x with | (i,x) => (i,ev x)).toList.length ∧
  ∀ (i : Nat) p q,(ps.toList.map fun p => (p.1,ρ p.2))[i]? = some p → (ps.map fun x => match x with | (i,x) => (i,ev x)).toList[i]? = some q → p.1 = q.1 ∧ Rel σ p.2 q.2 := by
 refine ⟨by simp,fun i p q hp hq => ?_⟩
 simp only [List.getElem?_map,Option.map_eq_some_iff,Array.toList_map] at hp hq
 obtain ⟨x,h1,rfl⟩ := hp
 obtain ⟨y,h2,rfl⟩ := hq
 rw [h1] at h2
 simp only [Option.some.injEq] at h2
 subst h2
 exact ⟨rfl,hρ x.2⟩
theorem run_places {fs : Array Field} (h : (fs.all fun f => (P.info? f.type).isSome) = true) :
  ∃ pl : Array (Nat × Nat),(fs.mapM fun f => do pure (f.offset,← sizeOf f.type) : Sem _).run P w = .ok pl w ∧ ∀ i,pl[i]? = placeOf P fs i := by
 have key : ∀ (l : List Field),(∀ f ∈ l,(P.info? f.type).isSome = true) → ∃ pl : List (Nat × Nat),(l.mapM fun f => do pure (f.offset,← sizeOf f.type) : Sem _).run P w = .ok pl w ∧
   ∀ i : Nat,pl[i]? = (l[i]?).bind fun f => (P.info? f.type).map fun inf => (f.offset,inf.size) := by
  intro l
  induction l with
  | nil => intro _; exact ⟨[],rfl,fun i => by simp⟩
  | cons f l ih =>
   intro hl
   obtain ⟨pl,h1,h2⟩ := ih (fun g hg => hl g (List.mem_cons_of_mem _ hg))
   obtain ⟨inf,hi⟩ := Option.isSome_iff_exists.1 (hl f (List.mem_cons_self ..))
   refine ⟨(f.offset,inf.size) :: pl,?_,fun i => ?_⟩
   ·rw [List.mapM_cons]
    simp only [Sem.run_bind,run_sizeOf' hi,Result.andThen_ok,Sem.run_pure,h1]
   ·cases i with
    | zero => simp [hi]
    | succ i => simpa using h2 i
 obtain ⟨pl,h1,h2⟩ := key fs.toList (fun f hf => by
  have := Array.all_eq_true_iff_forall_mem.1 h f (Array.mem_toList_iff.1 hf)
  exact this)
 refine ⟨pl.toArray,?_,fun i => ?_⟩
 ·rw [Array.mapM_eq_mapM_toList]
  simp only [map_eq_pure_bind,Sem.run_bind,h1,Result.andThen_ok,Sem.run_pure]
 ·simp only [List.getElem?_toArray,h2 i,placeOf]
  rw [show fs.toList[i]? = fs[i]? by simp]
  cases fs[i]? with
  | none => rfl
  | some f => simp only [Option.bind_some]; cases P.info? f.type <;> rfl
theorem run_sliceData {tys : Array TypeId} {ty : TypeId} {a : Addr} {n c : Nat} (hc : ¬ c = 0) : (Builtin.unsafeSliceData_ tys ty #[.slice (some a) n c]).run P w = .ok (.pointer (some a)) w := by
 show (if c ≠ 0 then pure (Value.pointer (some a)) else _ : Sem Value).run P w = _
 rw [if_pos hc]; rfl
theorem run_sliceData0 {tys : Array TypeId} {ty : TypeId} {n c : Nat} : (Builtin.unsafeSliceData_ tys ty #[.slice none n c]).run P w = .ok (.pointer none) w := rfl
set_option maxHeartbeats 2000000 in
theorem apure_ok {ρ : Operand → AV} {ev : Operand → Value} {o : Oper} {a : AV} (hρ : ∀ x,Rel σ (ρ x) (ev x)) (h : apure P ρ o = some a) :
  ∃ v,Rel σ a v ∧ (execOp ev o).run P w = .ok (.value v) w := by
 obtain ⟨dst,op,oty,pos,after,guard⟩ := o
 unfold apure at h
 dsimp only at h
 split at h
 ·rename_i x
  simp only [Option.some.injEq] at h; subst h
  exact ⟨ev x,hρ x,by simp [execOp]⟩
 ·rename_i x
  simp only [Option.some.injEq] at h; subst h
  exact ⟨ev x,hρ x,by simp [execOp]⟩
 ·rename_i c x y
  split at h
  ·rename_i t ht
   simp only [Option.some.injEq] at h; subst h
   have hc := hρ c
   rw [ht] at hc
   generalize hcv : ev c = cv at hc
   cases hc
   cases t with
   | true => exact ⟨ev x,hρ x,by simp [execOp,hcv,asBool]⟩
   | false => exact ⟨ev y,hρ y,by simp [execOp,hcv,asBool]⟩
  ·cases h
 ·rename_i x
  have hx := hρ x
  generalize hxv : ev x = xv at hx
  split at h
  ·rename_i b off he
   simp only [Option.some.injEq] at h; subst h
   rw [he] at hx
   refine ⟨xv,hx,?_⟩
   cases hx
   simp [execOp,hxv]
  ·rename_i f p q he
   simp only [Option.some.injEq] at h; subst h
   rw [he] at hx
   refine ⟨xv,hx,?_⟩
   cases hx
   simp [execOp,hxv]
  ·rename_i t u he
   simp only [Option.some.injEq] at h; subst h
   rw [he] at hx
   refine ⟨xv,hx,?_⟩
   cases hx
   simp [execOp,hxv]
  ·cases h
 ·rename_i bop bty x y yty
  obtain ⟨v,h1,h2,h3⟩ := abin_ok (w := w) h (hρ x) (hρ y)
  refine ⟨v,h1,?_⟩
  simp only [execOp,Sem.run_bind,h3 x y,Result.andThen_ok,h2,Sem.run_pure]
 ·rename_i t x
  split at h
  ·rename_i b hb
   simp only [Option.some.injEq] at h; subst h
   have hx := hρ x
   rw [hb] at hx
   generalize hxv : ev x = xv at hx
   cases hx
   exact ⟨_,.bool _,by simp [execOp,hxv,Op.unary]⟩
  ·cases h
 ·rename_i t x
  split at h
  ·rename_i k n hb
   simp only [Option.some.injEq] at h; subst h
   have hx := hρ x
   rw [hb] at hx
   generalize hxv : ev x = xv at hx
   cases hx
   exact ⟨_,.int _ _,by simp [execOp,hxv,Op.unary,Op.intArith,wrapF_eq]⟩
  ·cases h
 ·rename_i t x
  split at h
  ·rename_i k n hb
   have hx := hρ x
   rw [hb] at hx
   generalize hxv : ev x = xv at hx
   cases hx
   cases hs : k.signed with
   | true => simp [hs] at h
   | false =>
    simp only [hs,cond_false] at h
    obtain ⟨v,h1,h2⟩ := binI_ok (P := P) (σ := σ) (w := w) (ty := 0) h
    refine ⟨v,h1,?_⟩
    have h3 : k.max = (maxN k : Int) := by cases k <;> first | rfl | simp [IntKind.signed] at hs
    have h4 : (Op.unary .xor (.int k n)).run P w = (binOp .xor 0 (.int k (maxN k : Int)) (.int k n)).run P w := by
     rw [← h3]; simp [Op.unary,hs,binOp]
    simp [execOp,hxv,h4,h2]
  ·cases h
 ·rename_i src dst x
  have hx := hρ x
  generalize hxv : ev x = xv at hx
  split at h
  ·rename_i d0 k' k n h0 h1 h2
   simp only [Option.some.injEq] at h; subst h
   rw [h2] at hx
   cases hx
   exact ⟨_,.int _ _,by simp [execOp,hxv,convert,run_underlying' h0,run_underlying' h1,Conv.intToInt,wrapF_eq]⟩
  ·rename_i d0 n s h0 h1 h2
   simp only [Option.some.injEq] at h; subst h
   rw [h2] at hx
   refine ⟨xv,hx,?_⟩
   cases hx
   simp [execOp,hxv,convert,run_underlying' h0,run_underlying' h1]
  ·cases h
 ·rename_i t x
  cases hc : P.concrete t with
  | false => simp [hc] at h
  | true =>
   simp only [hc,cond_true,Option.some.injEq] at h; subst h
   exact ⟨.iface t (ev x),.ifc _ _ _ (hρ x),by simp [execOp,run_makeInterface (h := hc)]⟩
 ·rename_i f first caps
  simp only [Option.some.injEq] at h; subst h
  obtain ⟨h1,h2⟩ := ofList_rel hρ first
  obtain ⟨h3,h4⟩ := ofList_rel hρ caps
  exact ⟨_,.fn f _ _ _ _ h1 h3 h2 h4,by simp [execOp,Instr.makeFunc]⟩
 ·rename_i ty x lo hi
  have hx := hρ x
  split at h
  ·cases h
  ·rename_i hne
   obtain ⟨v,h1,h2⟩ := asliceA_ok (P := P) (w := w) (lo' := lo.map ev) (hi' := hi.map ev) h hx (fun a v ha hv => by
    cases lo with
    | none => cases ha
    | some y => simp only [Option.map_some,Option.some.injEq] at ha hv; subst ha; subst hv; exact hρ y) (fun a v ha hv => by
    cases hi with
    | none => cases ha
    | some y => simp only [Option.map_some,Option.some.injEq] at ha hv; subst ha; subst hv; exact hρ y) (by cases lo <;> rfl) (by cases hi <;> rfl)
    (fun b off n e he _ => absurd he (hne b off))
   refine ⟨v,h1,?_⟩
   simp only [execOp,Option.map_none]
   exact run_v h2
 ·rename_i s x f
  split at h
  ·rename_i fs b off hu he
   split at h
   ·rename_i fl hf
    split at h
    ·rename_i inf hi
     cases hb : Nat.beq inf.size 0 with
     | true => simp [hb] at h
     | false =>
      simp only [hb,cond_false,Option.some.injEq] at h; subst h
      have h0 : ¬ inf.size = 0 := fun e => by rw [beqn_iff.2 e] at hb; cases hb
      have hx := hρ x
      rw [he] at hx
      generalize hxv : ev x = xv at hx
      cases hx with
      | ptr _ _ r base size o hs ho =>
      refine ⟨_,.ptr _ _ r base size (o + fl.offset) hs (by omega),?_⟩
      simp [execOp,hxv,Instr.fieldAt,run_underlying' hu,hf,Instr.sureAddr,fieldPlace,run_sizeOf' hi,h0,add_none]
    ·cases h
   ·cases h
  ·cases h
 ·rename_i s x f
  split at h
  ·rename_i fs n t hu he
   split at h
   ·rename_i fl hf
    have hx := hρ x
    rw [he] at hx
    generalize hxv : ev x = xv at hx
    cases hx with
    | agg _ _ cs hn h1 h2 =>
    obtain ⟨v,h3,h4⟩ := apartA_ok (P := P) (w := w) ⟨hn,h1,h2⟩ h
    refine ⟨v,h3,?_⟩
    simp [execOp,hxv,Instr.field,run_underlying' hu,hf,asAgg,h4]
   ·cases h
  ·cases h
 ·rename_i ty x ix
  have hx := hρ x
  have hi := hρ ix
  generalize hxv : ev x = xv at hx
  generalize hiv : ev ix = iv at hi
  split at h
  ·rename_i e b off len lb sz k i hu he1 he2
   split at h
   ·rename_i inf hinf
    cases hb : (Nat.beq inf.size sz && Nat.blt i len) with
    | false => simp [hb] at h
    | true =>
     simp only [hb,cond_true,Option.some.injEq] at h; subst h
     simp only [Bool.and_eq_true] at hb
     have e1 := beqn_iff.1 hb.1
     have e2 := blt_iff.1 hb.2
     rw [he1] at hx
     rw [he2] at hi
     cases hi
     cases hx with
     | sl _ _ _ _ _ r base size o cap hs q1 q2 q3 q4 =>
     have := q3 (by omega)
     refine ⟨_,.ptr _ _ r base size (o + i * sz) hs (by omega),?_⟩
     have c : (0 : Int) ≤ Int.ofNat i ∧ (Int.ofNat i : Int) < (len : Int) := by simp; omega
     simp only [execOp,hxv,hiv,Instr.indexAt,asIntOf,run_underlying' hu,run_sizeOf' hinf,Sem.run_bind,Sem.run_pure,Result.andThen_ok,c,and_self,if_true,add_none,e1]
     rfl
   ·cases h
  ·rename_i len e b off k i hu he1 he2
   split at h
   ·rename_i inf hinf
    cases hb : Nat.blt i len with
    | false => simp [hb] at h
    | true =>
     simp only [hb,cond_true,Option.some.injEq] at h; subst h
     have e2 := blt_iff.1 hb
     rw [he1] at hx
     rw [he2] at hi
     cases hi
     cases hx with
     | ptr _ _ r base size o hs ho =>
     refine ⟨_,.ptr _ _ r base size (o + i * inf.size) hs (by omega),?_⟩
     have c : (0 : Int) ≤ Int.ofNat i ∧ (Int.ofNat i : Int) < (len : Int) := by simp; omega
     simp only [execOp,hxv,hiv,Instr.indexAt,asIntOf,run_underlying' hu,run_sizeOf' hinf,Sem.run_bind,Sem.run_pure,Result.andThen_ok,c,and_self,if_true,add_none,Instr.sureAddr]
     rfl
   ·cases h
  ·cases h
 ·rename_i ty x ix
  have hx := hρ x
  have hi := hρ ix
  generalize hxv : ev x = xv at hx
  generalize hiv : ev ix = iv at hi
  split at h
  ·rename_i n s k i hu he1 he2
   cases hb : Nat.blt i n with
   | false => simp [hb] at h
   | true =>
    simp only [hb,cond_true,Option.some.injEq] at h; subst h
    have e2 := blt_iff.1 hb
    rw [he1] at hx
    rw [he2] at hi
    cases hi
    cases hx with
    | str t _ _ hn hs =>
    subst hn; subst hs
    have hl : i < t.data.toList.length := by simpa using e2
    refine ⟨_,.int _ _,?_⟩
    have hg := val_get hl
    have hlen : t.data.toList.length = t.size := by simp
    rw [hlen] at hg
    have c : (0 : Int) ≤ Int.ofNat i := by simp
    have hgi : t[i]? = some (t.data.toList[i]) := by
     have : t[i]? = some (t[i]'e2) := getElem?_pos t i e2
     rw [this]; rfl
    simp only [execOp,hxv,hiv,Instr.index,asIntOf,run_underlying' hu,Sem.run_bind,Sem.run_pure,Result.andThen_ok,c,if_true]
    rw [show (Int.ofNat i).toNat = i from rfl,hgi]
    simp only [Sem.run_pure,Result.andThen_ok,hg]
    rfl
  ·rename_i len e n t k i hu he1 he2
   split at h
   ·rename_i inf hinf
    cases hb : Nat.blt i len with
    | false => simp [hb] at h
    | true =>
     simp only [hb,cond_true] at h
     have e2 := blt_iff.1 hb
     rw [he1] at hx
     rw [he2] at hi
     cases hi
     cases hx with
     | agg _ _ cs hn h1 h2 =>
     obtain ⟨v,h3,h4⟩ := apartA_ok (P := P) (w := w) ⟨hn,h1,h2⟩ h
     refine ⟨v,h3,?_⟩
     have c : (0 : Int) ≤ Int.ofNat i ∧ (Int.ofNat i : Int) < (len : Int) := by simp; omega
     simp only [execOp,hxv,hiv,Instr.index,asIntOf,run_underlying' hu,run_sizeOf' hinf,Sem.run_bind,Sem.run_pure,Result.andThen_ok,c,and_self,if_true]
     rw [show (Int.ofNat i).toNat = i from rfl,h4]
     rfl
   ·cases h
  ·cases h
 ·rename_i t i
  split at h
  ·rename_i l he
   have hx := hρ t
   rw [he] at hx
   generalize hxv : ev t = xv at hx
   cases hx with
   | tup _ vs h1 h2 =>
   have hlt : i < vs.size := by rw [← h1]; exact (List.getElem?_eq_some_iff.1 h).1
   have hg : vs[i]? = some vs[i] := Array.getElem?_eq_getElem hlt
   exact ⟨vs[i],h2 i a _ h hg,by simp [execOp,hxv,Instr.extract,hg]⟩
  ·cases h
 ·rename_i t ps
  obtain ⟨q1,q2⟩ := parts_rel hρ ps
  split at h
  ·rename_i n z fs hz hu
   obtain ⟨zv,hzv,hzr⟩ := zeroA_ok hz (by simp) σ
   split at h
   ·rename_i u hf
    cases hb : (fs.all fun f => (P.info? f.type).isSome) with
    | false => simp [hb] at h
    | true =>
     simp only [hb,cond_true,Option.some.injEq] at h; subst h
     cases hzr with
     | agg _ _ cs hn h1 h2 =>
     obtain ⟨pl,h3,h4⟩ := run_places (P := P) (w := w) hb
     have h5 : (fun i => pl[i]?) = placeOf P fs := funext h4
     obtain ⟨cs',h6,h7⟩ := fillA_ok q1 q2 ⟨hn,h1,h2⟩ hf
     refine ⟨.agg cs',.agg _ _ _ h7.1 h7.2.1 h7.2.2,?_⟩
     simp only [execOp]
     refine run_v ?_
     simp only [Instr.build,Sem.run_bind,run_zeroValue hzv,Result.andThen_ok,run_underlying' hu,h3,Value.cells,h5,h6,Sem.run_pure]
   ·cases h
  ·rename_i n z len e hz hu
   obtain ⟨zv,hzv,hzr⟩ := zeroA_ok hz (by simp) σ
   split at h
   ·rename_i inf hinf
    split at h
    ·rename_i u hf
     simp only [Option.some.injEq] at h; subst h
     cases hzr with
     | agg _ _ cs hn h1 h2 =>
     obtain ⟨cs',h6,h7⟩ := fillA_ok q1 q2 ⟨hn,h1,h2⟩ hf
     refine ⟨.agg cs',.agg _ _ _ h7.1 h7.2.1 h7.2.2,?_⟩
     simp only [execOp]
     refine run_v ?_
     simp only [Instr.build,Sem.run_bind,run_zeroValue hzv,Result.andThen_ok,run_underlying' hu,run_sizeOf' hinf,Value.cells,h6,Sem.run_pure]
    ·cases h
   ·cases h
  ·cases h
 ·rename_i x ty
  have hx := hρ x
  generalize hxv : ev x = xv at hx
  have hrun : ∀ v,(Builtin.len_ #[ty] oty #[xv]).run P w = .ok v w → (execOp ev ⟨dst,.call ⟨.builtin .len,⟨[x]⟩,⟨[ty]⟩⟩,oty,pos,after,guard⟩).run P w = .ok (.value v) w := by
   intro v hv
   simp [execOp,resolve,invoke,builtin,hxv,hv]
  split at h
  ·rename_i n s hu he
   simp only [Option.some.injEq] at h; subst h
   rw [he] at hx
   cases hx with
   | str t _ _ hn hs =>
   subst hn
   exact ⟨_,.int _ _,hrun _ (by simp [Builtin.len_,run_underlying' hu,goInt])⟩
  ·rename_i e b off n lb sz hu he
   simp only [Option.some.injEq] at h; subst h
   rw [he] at hx
   cases hx
   exact ⟨_,.int _ _,hrun _ (by simp [Builtin.len_,run_underlying' hu,goInt])⟩
  ·rename_i e hu he
   simp only [Option.some.injEq] at h; subst h
   rw [he] at hx
   cases hx
   exact ⟨_,.int _ _,hrun _ (by simp [Builtin.len_,run_underlying' hu,goInt])⟩
  ·rename_i e e' hu he
   simp only [Option.some.injEq] at h; subst h
   rw [he] at hx
   cases hx
   exact ⟨_,.int _ _,hrun _ (by simp [Builtin.len_,run_underlying' hu,goInt])⟩
  ·rename_i n e hu
   simp only [Option.some.injEq] at h; subst h
   exact ⟨_,.int _ _,hrun _ (by simp [Builtin.len_,run_underlying' hu,goInt])⟩
  ·cases h
 ·rename_i x y tys
  have hx := hρ x
  have hy := hρ y
  generalize hxv : ev x = xv at hx
  generalize hyv : ev y = yv at hy
  split at h
  ·rename_i k m k' n he1 he2
   simp only [Option.some.injEq] at h; subst h
   rw [he1] at hx
   rw [he2] at hy
   cases hx; cases hy
   refine ⟨_,.int _ _,?_⟩
   rw [ilt_eq]
   by_cases hc : m < n
   ·simp [execOp,resolve,invoke,builtin,hxv,hyv,Builtin.max_,Builtin.max2,hc]
   ·simp [execOp,resolve,invoke,builtin,hxv,hyv,Builtin.max_,Builtin.max2,hc]
  ·cases h
 ·rename_i x y tys
  have hx := hρ x
  have hy := hρ y
  generalize hxv : ev x = xv at hx
  generalize hyv : ev y = yv at hy
  split at h
  ·rename_i k m k' n he1 he2
   simp only [Option.some.injEq] at h; subst h
   rw [he1] at hx
   rw [he2] at hy
   cases hx; cases hy
   refine ⟨_,.int _ _,?_⟩
   rw [ilt_eq]
   by_cases hc : n < m
   ·simp [execOp,resolve,invoke,builtin,hxv,hyv,Builtin.min_,Builtin.min2,hc]
   ·simp [execOp,resolve,invoke,builtin,hxv,hyv,Builtin.min_,Builtin.min2,hc]
  ·cases h
 ·rename_i x tys
  have hx := hρ x
  generalize hxv : ev x = xv at hx
  split at h
  ·rename_i b off len lb sz he
   cases hb : Nat.beq lb 0 with
   | true => simp [hb] at h
   | false =>
    have h0 : lb ≠ 0 := fun e => by rw [beqn_iff.2 e] at hb; cases hb
    simp only [hb,cond_false,Option.some.injEq] at h; subst h
    rw [he] at hx
    cases hx with
    | sl _ _ _ _ _ r base size o cap hs q1 q2 q3 q4 =>
    have hc : ¬ cap = 0 := by omega
    exact ⟨_,.ptr _ _ r base size o hs (q3 h0),by simp [execOp,resolve,invoke,builtin,hxv,run_sliceData hc]⟩
  ·rename_i he
   simp only [Option.some.injEq] at h; subst h
   rw [he] at hx
   cases hx
   exact ⟨_,.nilp,by simp [execOp,resolve,invoke,builtin,hxv,run_sliceData0]⟩
  ·cases h
 ·rename_i ty x lo hi mx
  split at h
  ·rename_i e b off len lb sz l hh m hu he hl hh' hm
   split at h
   ·rename_i inf hi0
    have hx := hρ x
    rw [he] at hx
    generalize hxv : ev x = xv at hx
    cases hx with
    | sl _ _ _ _ _ r base size o cap hs q1 q2 q3 q4 =>
    cases hc : (Nat.beq inf.size sz && (Nat.ble l hh && (Nat.ble hh m && Nat.ble m lb))) with
    | false => simp [hc] at h
    | true =>
     simp only [hc,cond_true,Option.some.injEq] at h; subst h
     simp only [Bool.and_eq_true] at hc
     have e0 := beqn_iff.1 hc.1
     have e1 := ble_iff.1 hc.2.1
     have e2 := ble_iff.1 hc.2.2.1
     have e3 := ble_iff.1 hc.2.2.2
     have hr := run_bounds3 (P := P) (w := w) (cap := cap) (lo := lo.map ρ) (lo' := lo.map ev) hl hh' hm e1 e2 (by omega : m ≤ cap) (len := len) (fun a v ha hv => by
      cases lo with
      | none => simp at ha
      | some z => simp only [Option.map_some,Option.some.injEq] at ha hv; subst ha; subst hv; exact hρ z) (by cases lo <;> rfl) (hρ hi) (hρ mx)
     refine ⟨.slice (some ⟨r,if m = l then o else o + l * sz,none⟩) (hh - l) (m - l),.sl _ _ _ _ _ r base size _ _ hs (by omega) (by omega) (fun hne => ?_) ?_,?_⟩
     ·rw [if_neg (by omega),q3 (by omega)]; omega
     ·have hmc : m * sz ≤ cap * sz := Nat.mul_le_mul_right _ (by omega)
      split
      ·rename_i hcl; subst hcl; simp; omega
      ·have : l * sz + (m - l) * sz = m * sz := by rw [← Nat.add_mul]; congr 1; omega
       omega
     ·have hs3 : (Instr.sliceAt ty (.slice (some ⟨r,o,none⟩) len cap) (lo.map ev) (some (ev hi)) (some (ev mx))).run P w = .ok (.slice (some ⟨r,if m = l then o else o + l * sz,none⟩) (hh - l) (m - l)) w := by
       simp only [Instr.sliceAt,Sem.run_bind,run_underlying' hu,Result.andThen_ok,Instr.slice,hr,run_sizeOf' hi0,Option.map_some,e0]
       rw [← addr_if]
       split <;> rfl
      simp only [execOp,hxv]
      exact run_v hs3
   ·cases h
  ·cases h
 ·rename_i x xt t
  split at h
  ·rename_i d t' v hu he
   have hx := hρ x
   rw [he] at hx
   generalize hxv : ev x = xv at hx
   cases hx with
   | ifc _ _ vv hv =>
   cases hc : (isItf d || !(Nat.beq t' t)) with
   | true => simp [hc] at h
   | false =>
    simp only [hc,cond_false,Option.some.injEq] at h; subst h
    simp only [Bool.or_eq_false_iff,Bool.not_eq_false'] at hc
    have e0 := beqn_iff.1 hc.2
    subst e0
    refine ⟨vv,hv,?_⟩
    simp only [execOp,hxv]
    refine run_v ?_
    unfold Instr.typeAssert
    simp only [Sem.run_bind,run_underlying' hu,Result.andThen_ok]
    cases d <;> first | (simp [isItf] at hc; done) | simp
  ·cases h
 ·rename_i x ty
  have hx := hρ x
  generalize hxv : ev x = xv at hx
  split at h
  ·rename_i e hu he
   simp only [Option.some.injEq] at h; subst h
   rw [he] at hx
   cases hx
   refine ⟨_,.int _ _,?_⟩
   simp [execOp,resolve,invoke,builtin,hxv,Builtin.cap_,run_underlying' hu,goInt]
  ·cases h
 ·cases h
end
end I
end Go.Proofs.YtojefiolcedigaaGreatDoor
namespace Go.Proofs.YtojefiolcedigaaGreatDoor
namespace I
open K (one aggB run_underlying' run_sizeOf' add_none run_v cell_cells)
set_option linter.unusedVariables false
def eqKey : AV → AV → Option Bool
 | .int k a,.int k' b => bif Nat.beq (kn k) (kn k') then some (ieq a b) else none
 | .str n x,.str m y => some (Nat.beq n m && Nat.beq x y)
 | .bool a,.bool b => some (a == b)
 | _,_ => none
def fitKey : TypeDesc → AV → Bool
 | .int _,.int _ _ => true
 | .string,.str _ _ => true
 | .bool,.bool _ => true
 | _,_ => false
def findI (k : AV) : AV → Nat → Option (Option (Nat × AV))
 | .lcons (.lcons k' v) l,i => match eqKey k k' with
  | some true => some (some (i,v))
  | some false => findI k l (i + 1)
  | none => none
 | .lnil,_ => some none
 | _,_ => none
def setI (k v : AV) : Nat → AV → AV
 | 0,.lcons _ l => .lcons (.lcons k v) l
 | i + 1,.lcons e l => .lcons e (setI k v i l)
 | _,l => l
def pushI (k v : AV) : AV → AV
 | .lcons e l => .lcons e (pushI k v l)
 | _ => .lcons (.lcons k v) .lnil
def dropI : Nat → AV → AV
 | 0,.lcons _ l => l
 | i + 1,.lcons e l => .lcons e (dropI i l)
 | _,l => l
section
variable {P : Program} {σ : Sg} {w : World}
theorem EsRel.nil_of {es : List MapEntry} (h : EsRel σ .lnil es) : es = [] := by
 cases es with
 | nil => rfl
 | cons e es => exact h.elim
theorem EsRel.cons_of {k v l : AV} {es : List MapEntry} (h : EsRel σ (.lcons (.lcons k v) l) es) : ∃ e es',es = e :: es' ∧ Rel σ k e.key ∧ Rel σ v e.val ∧ EsRel σ l es' := by
 cases es with
 | nil => exact h.elim
 | cons e es => exact ⟨e,es,rfl,h.1,h.2.1,h.2.2⟩
theorem eqKey_ok {d : TypeDesc} {k k' : AV} {kv kv' : Value} {b : Bool} (hk : Rel σ k kv) (hk' : Rel σ k' kv') (hf : fitKey d k = true) (h : eqKey k k' = some b) : Instr.sameNow d kv kv' = some b := by
 unfold eqKey at h
 split at h
 ·rename_i q a q' a'
  cases hk; cases hk'
  cases hb : Nat.beq (kn q) (kn q') with
  | false => simp [hb] at h
  | true =>
   simp only [hb,cond_true,Option.some.injEq] at h
   have := kn_inj hb
   subst this
   cases d <;> simp [fitKey] at hf
   simp [Instr.sameNow,← h,ieq_beq]
 ·simp only [Option.some.injEq] at h
  cases hk with
  | str s _ _ hn hx =>
  cases hk' with
  | str t _ _ hm hy =>
  subst hn; subst hx; subst hm; subst hy
  cases d <;> simp [fitKey] at hf
  simp only [Instr.sameNow,Option.some.injEq]
  rw [← h,← beq_str]
  apply Bool.eq_iff_iff.2
  rw [Go.MapKept.bytes_beq,beq_iff_eq]
  constructor
  ·intro e; rw [e]
  ·intro e
   rw [toList_eq,toList_eq] at e
   cases s; cases t
   simp only [ByteArray.mk.injEq]
   exact Array.toList_inj.1 e
 ·simp only [Option.some.injEq] at h
  cases hk; cases hk'
  cases d <;> simp [fitKey] at hf
  simp [Instr.sameNow,← h]
 ·cases h
theorem findI_ok {d : TypeDesc} {k : AV} {kv : Value} (hk : Rel σ k kv) (hf : fitKey d k = true) : ∀ {l : AV} {es : List MapEntry} {i : Nat} {r : Option (Nat × AV)},EsRel σ l es → findI k l i = some r →
  (r = none ∧ Instr.findNow d kv es i = some none) ∨ ∃ j v u,r = some (j,v) ∧ Instr.findNow d kv es i = some (some (j,u)) ∧ Rel σ v u ∧ i ≤ j ∧ ∃ e,es[j - i]? = some e ∧ u = e.val ∧ Instr.sameNow d kv e.key = some true
 | .lcons (.lcons k' v) l,es,i,r,he,h => by
  obtain ⟨e,es',rfl,h1,h2,h3⟩ := he.cons_of
  unfold findI at h
  unfold Instr.findNow
  split at h
  ·rename_i hb
   simp only [Option.some.injEq] at h
   have hs := eqKey_ok hk h1 hf hb
   rw [hs]
   exact .inr ⟨i,v,e.val,h.symm,rfl,h2,Nat.le_refl _,e,by simp,rfl,hs⟩
  ·rename_i hb
   rw [eqKey_ok hk h1 hf hb]
   rcases findI_ok hk hf h3 h with ⟨a,b⟩ | ⟨j,u,u',a,b,c,d',e',f1,f2,f3⟩
   ·exact .inl ⟨a,b⟩
   ·refine .inr ⟨j,u,u',a,b,c,by omega,e',?_,f2,f3⟩
    rw [show j - i = (j - (i + 1)) + 1 by omega,List.getElem?_cons_succ]; exact f1
  ·cases h
 | .lnil,es,i,r,he,h => by
  have := he.nil_of
  subst this
  simp only [findI,Option.some.injEq] at h
  exact .inl ⟨h.symm,rfl⟩
theorem EsRel.set {k v : AV} {kv vv : Value} (hk : Rel σ k kv) (hv : Rel σ v vv) : ∀ {l : AV} {es : List MapEntry} {i : Nat} {e : MapEntry},EsRel σ l es → es[i]? = some e → EsRel σ (setI k v i l) (es.set i { e with key := kv,val := vv })
 | .lcons (.lcons k' v') l,es,i,e,he,hi => by
  obtain ⟨e0,es',rfl,h1,h2,h3⟩ := he.cons_of
  cases i with
  | zero => simp only [List.getElem?_cons_zero,Option.some.injEq] at hi; exact ⟨hk,hv,h3⟩
  | succ i => simp only [List.getElem?_cons_succ] at hi; exact ⟨h1,h2,EsRel.set hk hv h3 hi⟩
 | .lnil,es,i,e,he,hi => by
  have := he.nil_of
  subst this
  simp at hi
theorem EsRel.push {k v : AV} {e : MapEntry} (hk : Rel σ k e.key) (hv : Rel σ v e.val) : ∀ {l : AV} {es : List MapEntry},EsRel σ l es → EsRel σ (pushI k v l) (es ++ [e])
 | .lcons (.lcons k' v') l,es,he => by
  obtain ⟨e0,es',rfl,h1,h2,h3⟩ := he.cons_of
  exact ⟨h1,h2,EsRel.push hk hv h3⟩
 | .lnil,es,he => by
  have := he.nil_of
  subst this
  exact ⟨hk,hv,trivial⟩
theorem EsRel.drop : ∀ {l : AV} {es : List MapEntry} {i : Nat},EsRel σ l es → i < es.length → EsRel σ (dropI i l) (es.eraseIdx i)
 | .lcons (.lcons k' v') l,es,i,he,hi => by
  obtain ⟨e0,es',rfl,h1,h2,h3⟩ := he.cons_of
  cases i with
  | zero => exact h3
  | succ i => exact ⟨h1,h2,EsRel.drop h3 (by simpa using hi)⟩
 | .lnil,es,i,he,hi => by
  have := he.nil_of
  subst this
  simp at hi
theorem fit_check {d : TypeDesc} {kt : TypeId} {k : AV} {kv : Value} (hk : Rel σ k kv) (hd : P.underlying kt = some d) (hf : fitKey d k = true) (em : Bool) : (Instr.checkKey em 10000 kt kv).run P w = .ok () w := by
 show (Instr.checkKey em (9999 + 1) kt kv).run P w = _
 cases d <;> cases k <;> simp [fitKey] at hf <;> cases hk <;> (unfold Instr.checkKey; simp only [Sem.run_bind,run_underlying' hd,Result.andThen_ok]; rfl)
theorem run_findKey' {kt : TypeId} {d : TypeDesc} {k : Value} {l : List MapEntry} {a : Option (Nat × Value)} (hd : P.underlying kt = some d) (h : Instr.findNow d k l 0 = some a) : (Instr.findKey kt k l).run P w = .ok a w := by
 unfold Instr.findKey
 simp only [Sem.run_bind,run_underlying' hd,Result.andThen_ok,h]; rfl
theorem same_bits {d : TypeDesc} {a b : Value} (h : Instr.sameNow d a b = some true) : Instr.sameBits 10000 b a = true := by
 unfold Instr.sameNow at h
 split at h
 ·rename_i k x k' y
  split at h
  ·rename_i hk
   simp only [Option.some.injEq,beq_iff_eq] at h
   subst hk; subst h
   simp [Instr.sameBits]
  ·cases h
 ·simp only [Option.some.injEq] at h
  have := (Go.MapKept.bytes_beq _ _).1 h
  subst this
  simp only [Instr.sameBits]; exact (Go.MapKept.bytes_beq _ _).2 rfl
 ·simp only [Option.some.injEq,beq_iff_eq] at h
  subst h
  simp [Instr.sameBits]
 ·cases h
theorem same_eq {d : TypeDesc} {a b : Value} (h : Instr.sameNow d a b = some true) : a = b := by
 unfold Instr.sameNow at h
 split at h
 ·split at h
  ·rename_i hk
   simp only [Option.some.injEq,beq_iff_eq] at h
   rw [hk,h]
  ·cases h
 ·simp only [Option.some.injEq] at h
  rw [(Go.MapKept.bytes_beq _ _).1 h]
 ·simp only [Option.some.injEq,beq_iff_eq] at h
  rw [h]
 ·cases h
theorem same_self {d : TypeDesc} {k : AV} {kv : Value} (hk : Rel σ k kv) (hf : fitKey d k = true) : Instr.sameNow d kv kv = some true := by
 cases d <;> cases k <;> simp [fitKey] at hf <;> cases hk <;> simp [Instr.sameNow]
 exact (Go.MapKept.bytes_beq _ _).2 rfl
theorem find_none {d : TypeDesc} {kv : Value} (hself : Instr.sameNow d kv kv = some true) : ∀ {es : List MapEntry} {i : Nat},Instr.findNow d kv es i = some none → ∀ e ∈ es,e.key ≠ kv
 | [],i,_,e,he => by cases he
 | x :: es,i,h,e,he => by
  unfold Instr.findNow at h
  split at h
  ·cases h
  ·rename_i hs
   rcases List.mem_cons.1 he with rfl | he
   ·intro hk
    rw [hk,hself] at hs
    cases hs
   ·exact find_none hself h e he
  ·cases h
end
end I
end Go.Proofs.YtojefiolcedigaaGreatDoor
namespace Go.Proofs.YtojefiolcedigaaGreatDoor
namespace I
open K (one aggB run_underlying' run_sizeOf' add_none run_v cell_cells)
set_option linter.unusedVariables false
def lengthA : AV → Nat
 | .lcons _ l => lengthA l + 1
 | _ => 0
def lookM (h x k : AV) : Option (Option (Nat × AV)) :=
 match x with
 | .nilm => some none
 | .map b => match cget HD h b with
  | .mp l => findI k l 0
  | _ => none
 | _ => none
def okA (ok : Bool) (v : AV) (b : Bool) : AV := bif ok then .tup (.lcons v (.lcons (.bool b) .lnil)) else v
def aread (P : Program) (ρ : Operand → AV) (h : AV) (o : Oper) : Option AV :=
 match o.op with
 | .load ty x => match ρ x with
  | .ptr b off => match cget HD h b with
   | .cells _ n _ t => apartA P ty n t off
   | _ => none
  | _ => none
 | .convert src dst x => match P.underlying src,P.underlying dst,ρ x with
  | some (.slice e),some .string,.sl b off len lb _ => match P.underlying e,cget HD h b with
   | some (.int .u8),.cells _ n _ t => bif Nat.ble (off + len) n && !(Nat.beq lb 0) then
     match bytesOf (lg n) t len off 0 with
     | some x => some (.str len x)
     | none => none
    else none
   | _,_ => none
  | some (.slice e),some .string,.nils => match P.underlying e with
   | some (.int .u8) => some (.str 0 0)
   | _ => none
  | some (.pointer t),some .unsafePointer,.ptr b off => match P.info? t,cget HD h b with
   | some inf,.cells _ n _ _ => bif !(Nat.beq inf.size 0) && Nat.blt off n then some (.ptr b off) else none
   | _,_ => none
  | some .unsafePointer,some (.pointer u),.ptr b off => match P.info? u,cget HD h b with
   | some inf,.cells ty n _ _ => bif Nat.beq (ty % 2) 1 && liesAt P P.depth (ty / 2) (n / P.cellsOf (ty / 2)) off u 1 then some (.ptr b off) else none
   | _,_ => none
  | _,_,_ => none
 | .slice ty x lo hi none => match ρ x,P.underlying ty with
  | .ptr b off,some (.array m e) => match cget HD h b,P.info? e with
   | .cells _ n _ _,some inf => bif Nat.ble (off + m * inf.size) n then asliceA P ty (.ptr b off) (lo.map ρ) (hi.map ρ) else none
   | _,_ => none
  | _,_ => none
 | .call ⟨.builtin .len,⟨[x]⟩,⟨[ty]⟩⟩ => match P.underlying ty,ρ x with
  | some (.map _ _),.map b => match cget HD h b with
   | .mp l => some (.int .i64 (.ofNat (lengthA l)))
   | _ => none
  | _,_ => none
 | .lookup t x k ok => match P.underlying t with
  | some (.map kt e) => match P.underlying kt with
   | some kd => bif fitKey kd (ρ k) then
     match lookM h (ρ x) (ρ k) with
     | some (some (_,v)) => some (okA ok v true)
     | some none => match zeroA P e with
      | .bad => none
      | z => some (okA ok z false)
     | none => none
    else none
   | none => none
  | _ => none
 | _ => none
section
variable {P : Program} {σ : Sg} {h : AV} {nx : Nat} {w0 w : World} {B : Fr}
theorem EsRel.length : ∀ {l : AV} {es : List MapEntry},EsRel σ l es → lengthA l = es.length
 | .lcons (.lcons _ _) l,e :: es,h => by simp [lengthA,EsRel.length h.2.2]
 | .lnil,[],_ => rfl
 | .lnil,_ :: _,h => h.elim
 | .lcons (.lcons _ _) _,[],h => h.elim
theorem load_cells {r o n : Nat} {cs : Array Value} {ty : TypeId} {fr : Nat × Nat} (hb : w.heap[r]? = some (.cells cs ty fr)) (hn : o + n ≤ cs.size) : (loadCells ⟨r,o,none⟩ n).run P w = .ok (cs.extract o (o + n)) w := by
 have := K.run_loadCells (P := P) (w := w) (b := r) (off := o) (n := n) (fun j => cs.getD (o + j) undef) (fun j hj => by
  rw [cell_cells hb,Array.getD_eq_getD_getElem?,Array.getElem?_eq_getElem (by omega)]; rfl)
 rw [this]
 congr 1
 apply Array.ext_getElem?
 intro i
 rw [Array.getElem?_extract]
 by_cases hi : i < n
 ·rw [if_pos (by omega)]
  simp [hi,Array.getD_eq_getD_getElem?]
  rw [Array.getElem?_eq_getElem (by omega)]; rfl
 ·rw [if_neg (by omega)]
  simp [hi]
theorem run_loadVar {r o : Nat} {cs : Array Value} {ty ty' : TypeId} {fr : Nat × Nat} {n base : Nat} {t a : AV} (hb : w.heap[r]? = some (.cells cs ty' fr)) (hbn : base + n ≤ cs.size)
  (hc : ∀ i,i < n → ∃ v,cs[base + i]? = some v ∧ one v = true ∧ Rel σ (cget (lg n) t i) v) {off : Nat} (ho : o = base + off) (ha : apartA P ty n t off = some a) : ∃ v,Rel σ a v ∧ (loadVar ty ⟨r,o,none⟩).run P w = .ok v w := by
 have hrow : RowRel σ n t (cs.extract base (base + n)) := by
  have hsz : (cs.extract base (base + n)).size = n := by simp; omega
  have hg : ∀ (i : Nat) v,(cs.extract base (base + n))[i]? = some v → i < n ∧ cs[base + i]? = some v := fun i v hv => by
   have hi : i < n := by rw [← hsz]; exact (Array.getElem?_eq_some_iff.1 hv).1
   refine ⟨hi,?_⟩
   rw [Array.getElem?_extract] at hv
   split at hv
   ·exact hv
   ·cases hv
  refine ⟨hsz,fun i v hv => ?_,fun i v hv => ?_⟩
  ·obtain ⟨hi,hv⟩ := hg i v hv
   obtain ⟨u,h1,h2,h3⟩ := hc i hi
   rw [hv] at h1; simp only [Option.some.injEq] at h1; rw [h1]; exact h2
  ·obtain ⟨hi,hv⟩ := hg i v hv
   obtain ⟨u,h1,h2,h3⟩ := hc i hi
   rw [hv] at h1; simp only [Option.some.injEq] at h1; rw [h1]; exact h3
 obtain ⟨v,h1,h2⟩ := apartA_ok (P := P) (w := w) hrow ha
 refine ⟨v,h1,?_⟩
 rw [← h2]
 unfold apartA at ha
 split at ha
 ·rename_i d inf hu hi
  cases hd : isA d with
  | true =>
   simp only [hd,cond_true] at ha
   cases hb' : Nat.ble (off + inf.size) n with
   | false => simp [hb'] at ha
   | true =>
    have e := ble_iff.1 hb'
    have e2 : (cs.extract base (base + n)).extract off (off + inf.size) = cs.extract o (o + inf.size) := by
     apply Array.ext_getElem?
     intro i
     simp only [Array.getElem?_extract,Array.size_extract]
     by_cases hi' : i < inf.size
     ·rw [if_pos (by omega),if_pos (by omega),if_pos (by omega)]; congr 1; omega
     ·rw [if_neg (by omega),if_neg (by omega)]
    simp only [loadVar,part,Sem.run_bind,run_isA hu,hd,Result.andThen_ok,if_true,run_sizeOf' hi,load_cells hb (show o + inf.size ≤ cs.size by omega),Sem.run_pure,e2]
  | false =>
   simp only [hd,cond_false] at ha
   cases hb' : Nat.blt off n with
   | false => simp [hb'] at ha
   | true =>
    have e := blt_iff.1 hb'
    obtain ⟨u,g1,g2,g3⟩ := hc off e
    have g4 : (cs.extract base (base + n))[off]? = some u := by rw [Array.getElem?_extract,if_pos (by omega)]; exact g1
    simp only [loadVar,part,Sem.run_bind,run_isA hu,hd,Result.andThen_ok,Bool.false_eq_true,if_false,g4,Sem.run_pure]
    have g5 : w.cell? ⟨r,o,none⟩ = some u := by rw [cell_cells hb,ho]; exact g1
    simp [load,Sem.run,g5]
 ·cases ha
theorem okA_ok {ok b : Bool} {v : AV} {u : Value} (hv : Rel σ v u) : Rel σ (okA ok v b) (if ok = true then .tuple #[u,.bool b] else u) := by
 cases ok with
 | false => exact hv
 | true =>
  refine .tup _ _ rfl (fun i a x ha hx => ?_)
  match i with
  | 0 => simp [toList] at ha hx; subst ha; subst hx; exact hv
  | 1 => simp [toList] at ha hx; subst ha; subst hx; exact .bool _
  | i + 2 => simp [toList] at ha
theorem lookM_ok (H : HS σ h nx w0 B w) {x k : AV} {xv kv : Value} {kd : TypeDesc} {r : Option (Nat × AV)} (hx : Rel σ x xv) (hk : Rel σ k kv) (hf : fitKey kd k = true) (hl : lookM h x k = some r) :
  ∃ es : Array MapEntry,((xv = .map none ∧ es = #[]) ∨ ∃ q clock,xv = .map (some q) ∧ w.heap[q]? = some (.map es clock)) ∧
   ((r = none ∧ Instr.findNow kd kv es.toList 0 = some none) ∨ ∃ j v u,r = some (j,v) ∧ Instr.findNow kd kv es.toList 0 = some (some (j,u)) ∧ Rel σ v u) := by
 unfold lookM at hl
 split at hl
 ·cases hx
  simp only [Option.some.injEq] at hl
  exact ⟨#[],.inl ⟨rfl,rfl⟩,.inl ⟨hl.symm,rfl⟩⟩
 ·rename_i b
  cases hx with
  | map _ r' base size hs =>
  split at hl
  ·rename_i l hc
   have := H.blk b (H.lt hs)
   rw [hc] at this
   obtain ⟨r1,base1,size1,es,clock,h1,h2,h3,h4⟩ := this
   rw [hs] at h1
   simp only [Option.some.injEq,Prod.mk.injEq] at h1
   obtain ⟨rfl,rfl,rfl⟩ := h1
   refine ⟨es,.inr ⟨_,clock,rfl,h2⟩,?_⟩
   rcases findI_ok hk hf h3.1 hl with ⟨a,b⟩ | ⟨j,v,u,a,b,c,d,_⟩
   ·exact .inl ⟨a,b⟩
   ·exact .inr ⟨j,v,u,a,b,c⟩
  ·cases hl
 ·cases hl
theorem aread_ok {ρ : Operand → AV} {ev : Operand → Value} {o : Oper} {a : AV} (H : HS σ h nx w0 B w) (hρ : ∀ x,Rel σ (ρ x) (ev x)) (ha : aread P ρ h o = some a) :
  ∃ v,Rel σ a v ∧ (execOp ev o).run P w = .ok (.value v) w := by
 obtain ⟨dst,op,oty,pos,after,guard⟩ := o
 unfold aread at ha
 dsimp only at ha
 split at ha
 ·rename_i ty x
  split at ha
  ·rename_i b off he
   have hx := hρ x
   rw [he] at hx
   generalize hxv : ev x = xv at hx
   cases hx with
   | ptr _ _ r base size o hs ho =>
   split at ha
   ·rename_i ety n ro t hc
    obtain ⟨cs,fr,tt,h1,h2,h3,h4,h5⟩ := H.cells hs hc
    obtain ⟨v,h6,h7⟩ := run_loadVar (P := P) (σ := σ) h1 (by omega) h4 ho ha
    exact ⟨v,h6,by simp [execOp,hxv,Instr.loadAt,Instr.sureAddr,h7]⟩
   ·cases ha
  ·cases ha
 ·rename_i src dst x
  have hx := hρ x
  generalize hxv : ev x = xv at hx
  split at ha
  ·rename_i e b off len lb sz hu1 hu2 he
   rw [he] at hx
   cases hx with
   | sl _ _ _ _ _ r base size o cap hs q1 q2 q3 q4 =>
   split at ha
   ·rename_i ety n ro t hue hc
    cases hb : (Nat.ble (off + len) n && !(Nat.beq lb 0)) with
    | false => simp [hb] at ha
    | true =>
     simp only [hb,cond_true] at ha
     simp only [Bool.and_eq_true,Bool.not_eq_true'] at hb
     have e1 := ble_iff.1 hb.1
     have e2 : lb ≠ 0 := fun e => by rw [beqn_iff.2 e] at hb; simp at hb
     have e3 := q3 e2
     split at ha
     ·rename_i y hy
      simp only [Option.some.injEq] at ha; subst ha
      obtain ⟨cs,fr,tt,h1,h2,h3,h4,h5⟩ := H.cells hs hc
      obtain ⟨l,g1,g2,g3⟩ := bytesOf_ok (cs := cs) (base := base) (σ := σ) hy (fun j hj hj' => by
       obtain ⟨v,f1,f2,f3⟩ := h4 j (by omega)
       exact ⟨v,f1,f3⟩)
      refine ⟨.string ⟨l.toArray⟩,.str _ _ _ (by show len = l.toArray.size; simp [g1]) (by simpa [val] using g2),?_⟩
      have hstr := K.bytes_str (P := P) (w := w) (b := r) (off := o) (c := cap) g1 (fun j hj => by
       rw [cell_cells h1,e3,Nat.add_assoc]; exact g3 j hj)
      simp [execOp,hxv,run_convert_bytes_string w src dst e (some ⟨r,o,none⟩) len cap hu1 hue hu2,hstr]
     ·cases ha
   ·cases ha
  ·rename_i e hu1 hu2 he
   rw [he] at hx
   cases hx
   split at ha
   ·rename_i hue
    simp only [Option.some.injEq] at ha; subst ha
    refine ⟨.string .empty,.str _ _ _ rfl rfl,?_⟩
    have : (Conv.bytesToString (.slice none 0 0)).run P w = .ok (.string .empty) w := rfl
    simp [execOp,hxv,run_convert_bytes_string w src dst e none 0 0 hu1 hue hu2,this]
   ·cases ha
  ·rename_i t b off hu1 hu2 he
   rw [he] at hx
   cases hx with
   | ptr _ _ r base size o hs ho =>
   split at ha
   ·rename_i inf ety n ro t' hinf hc
    cases hb : (!(Nat.beq inf.size 0) && Nat.blt off n) with
    | false => simp [hb] at ha
    | true =>
     simp only [hb,cond_true,Option.some.injEq] at ha; subst ha
     simp only [Bool.and_eq_true,Bool.not_eq_true'] at hb
     have e1 : inf.size ≠ 0 := fun e => by rw [beqn_iff.2 e] at hb; simp at hb
     have e2 := blt_iff.1 hb.2
     obtain ⟨cs,fr,tt,h1,h2,h3,h4,h5⟩ := H.cells hs hc
     have hsh : w.shape? r = some (tt,size) := by simp [World.shape?,h1,h2]
     have hr := Lib.run_to_unsafe (P := P) w ⟨r,o,none⟩ hu1 hu2 hinf e1 hsh (by show o < size; omega)
     exact ⟨_,.ptr _ _ r base size o hs ho,by simp [execOp,hxv,hr]⟩
   ·cases ha
  ·rename_i u b off hu1 hu2 he
   rw [he] at hx
   cases hx with
   | ptr _ _ r base size o hs ho =>
   split at ha
   ·rename_i inf ety n ro t' hinf hc
    cases hb : (Nat.beq (ety % 2) 1 && liesAt P P.depth (ety / 2) (n / P.cellsOf (ety / 2)) off u 1) with
    | false => simp [hb] at ha
    | true =>
     simp only [hb,cond_true,Option.some.injEq] at ha; subst ha
     simp only [Bool.and_eq_true] at hb
     have e1 := beqn_iff.1 hb.1
     obtain ⟨cs,fr,h1,h2,h3,h4,h5⟩ := H.cellsT hs hc (.inr e1)
     have hsh : w.shape? r = some (ety / 2,size) := by simp [World.shape?,h1,h2]
     have e2 : size = n := (h3.2.2 e1).symm
     have e3 : o = off := by omega
     have hr := Lib.run_from_unsafe (P := P) w ⟨r,o,none⟩ hu1 hu2 hinf hsh (by show liesAt P P.depth (ety / 2) (size / P.cellsOf (ety / 2)) o u 1 = true; rw [e2,e3]; exact hb.2)
     exact ⟨_,.ptr _ _ r base size o hs ho,by simp [execOp,hxv,hr]⟩
   ·cases ha
  ·cases ha
 ·rename_i ty x lo hi
  split at ha
  ·rename_i b off m e he hu
   have hx := hρ x
   rw [he] at hx
   split at ha
   ·rename_i ety n ro t inf hc hinf
    cases hb : Nat.ble (off + m * inf.size) n with
    | false => simp [hb] at ha
    | true =>
     simp only [hb,cond_true] at ha
     have e1 := ble_iff.1 hb
     obtain ⟨v,h1,h2⟩ := asliceA_ok (P := P) (w := w) (lo' := lo.map ev) (hi' := hi.map ev) ha hx (fun a v ha hv => by
      cases lo with
      | none => cases ha
      | some y => simp only [Option.map_some,Option.some.injEq] at ha hv; subst ha; subst hv; exact hρ y) (fun a v ha hv => by
      cases hi with
      | none => cases ha
      | some y => simp only [Option.map_some,Option.some.injEq] at ha hv; subst ha; subst hv; exact hρ y) (by cases lo <;> rfl) (by cases hi <;> rfl)
      (fun b' off' n' e' hbo hu' inf' hinf' r base size hs => by
       simp only [AV.ptr.injEq] at hbo
       obtain ⟨rfl,rfl⟩ := hbo
       rw [hu] at hu'
       simp only [Option.some.injEq,TypeDesc.array.injEq] at hu'
       obtain ⟨rfl,rfl⟩ := hu'
       rw [hinf] at hinf'
       simp only [Option.some.injEq] at hinf'
       subst hinf'
       obtain ⟨cs,fr,tt,h1,h2,h3,h4,h5⟩ := H.cells hs hc
       omega)
     refine ⟨v,h1,?_⟩
     simp only [execOp,Option.map_none]
     exact run_v h2
   ·cases ha
  ·cases ha
 ·rename_i x ty
  split at ha
  ·rename_i k e b hu he
   have hx := hρ x
   rw [he] at hx
   generalize hxv : ev x = xv at hx
   cases hx with
   | map _ r base size hs =>
   split at ha
   ·rename_i l hc
    simp only [Option.some.injEq] at ha; subst ha
    have := H.blk b (H.lt hs)
    rw [hc] at this
    obtain ⟨r',base',size',es,clock,h1,h2,h3,h4⟩ := this
    rw [hs] at h1
    simp only [Option.some.injEq,Prod.mk.injEq] at h1
    obtain ⟨rfl,rfl,rfl⟩ := h1
    refine ⟨_,.int _ _,?_⟩
    have hl := h3.1.length
    have hgo : (getObj r).run P w = .ok (.map es clock) w := by simp [getObj,Sem.run,h2]
    simp [execOp,resolve,invoke,builtin,hxv,Builtin.len_,run_underlying' hu,hgo,goInt,hl]
   ·cases ha
  ·cases ha
 ·rename_i t x k ok
  split at ha
  ·rename_i kt e hu
   split at ha
   ·rename_i kd hkd
    cases hf : fitKey kd (ρ k) with
    | false => simp [hf] at ha
    | true =>
     simp only [hf,cond_true] at ha
     have hchk := fun em => fit_check (P := P) (w := w) (hρ k) hkd hf em
     split at ha
     ·rename_i j v hl
      simp only [Option.some.injEq] at ha; subst ha
      obtain ⟨es,g1,g2⟩ := lookM_ok H (hρ x) (hρ k) hf hl
      rcases g2 with ⟨g2,_⟩ | ⟨j',v',u,g2,g3,g4⟩
      ·cases g2
      ·simp only [Option.some.injEq,Prod.mk.injEq] at g2
       obtain ⟨rfl,rfl⟩ := g2
       refine ⟨_,okA_ok (ok := ok) (b := true) g4,?_⟩
       simp only [execOp]
       refine run_v ?_
       rcases g1 with ⟨g1,rfl⟩ | ⟨q,clock,g1,g5⟩
       ·simp only [Instr.lookup,g1,Sem.run_bind,run_underlying' hu,Result.andThen_ok,Sem.run_pure,hchk,run_findKey' hkd g3]
       ·have hgo : (getObj q).run P w = .ok (.map es clock) w := by simp [getObj,Sem.run,g5]
        simp only [Instr.lookup,g1,Sem.run_bind,run_underlying' hu,Result.andThen_ok,hgo,Sem.run_pure,hchk,run_findKey' hkd g3]
     ·rename_i hl
      split at ha
      ·cases ha
      ·rename_i z hz
       simp only [Option.some.injEq] at ha; subst ha
       obtain ⟨es,g1,g2⟩ := lookM_ok H (hρ x) (hρ k) hf hl
       rcases g2 with ⟨_,g3⟩ | ⟨j',v',u,g2,g3,g4⟩
       ·obtain ⟨zv,hzv,hzr⟩ := zeroA_ok (P := P) (t := e) rfl hz σ
        refine ⟨_,okA_ok (ok := ok) (b := false) hzr,?_⟩
        simp only [execOp]
        refine run_v ?_
        rcases g1 with ⟨g1,rfl⟩ | ⟨q,clock,g1,g5⟩
        ·simp only [Instr.lookup,g1,Sem.run_bind,run_underlying' hu,Result.andThen_ok,Sem.run_pure,hchk,run_findKey' hkd g3,run_zeroValue hzv]
        ·have hgo : (getObj q).run P w = .ok (.map es clock) w := by simp [getObj,Sem.run,g5]
         simp only [Instr.lookup,g1,Sem.run_bind,run_underlying' hu,Result.andThen_ok,hgo,Sem.run_pure,hchk,run_findKey' hkd g3,run_zeroValue hzv]
       ·cases g2
     ·cases ha
   ·cases ha
  ·cases ha
 ·cases ha
end
end I
end Go.Proofs.YtojefiolcedigaaGreatDoor
namespace Go.Proofs.YtojefiolcedigaaGreatDoor
namespace I
open K (one aggB run_underlying' run_sizeOf' add_none run_v cell_cells)
set_option linter.unusedVariables false
inductive NV where
 | ptr
 | sl (len lb sz : Nat)
 | map
def NV.at : NV → Nat → AV
 | .ptr,b => .ptr b 0
 | .sl len lb sz,b => .sl b 0 len lb sz
 | .map,b => .map b
def zrep (P : Program) (e : TypeId) (n : Nat) : Option AV :=
 match rowA (zeroA P e) with
 | some (sz,s) => bif Nat.beq sz 0 then none else
  bif Nat.beq sz 1 then some (unid (lg n) s) else
  match s with
  | .uni v => some (unid (lg n) v)
  | s => some (cmk (fun i => cget (lg sz) s (i % sz)) (lg n) 0 n)
 | none => none
def anew (P : Program) (ρ : Operand → AV) (o : Oper) : Option (NV × AV) :=
 match o.op with
 | .alloc t => match rowA (zeroA P t) with
  | some (n,s) => some (.ptr,.cells (2 * t + 1) n false s)
  | none => none
 | .box t x => match rowA (ρ x) with
  | some (n,s) => some (.ptr,.cells (2 * t + 1) n false s)
  | none => none
 | .buildSlice t len ps => match P.underlying t with
  | some (.slice e) => match P.info? e with
   | some inf => bif Nat.beq len 0 && Nat.beq ps.size 0 then some (.sl 0 0 inf.size,.cells (2 * e + 1) 0 false .undef) else
    bif Nat.ble (len * inf.size) 16777216 && !(Nat.beq (len * inf.size) 0) then
     match zrep P e (len * inf.size) with
     | some z => match fillA (fun i => some (i * inf.size,inf.size)) (len * inf.size) (ps.toList.map fun p => (p.1,ρ p.2)) z with
      | some u => some (.sl len len inf.size,.cells (2 * e + 1) (len * inf.size) false u)
      | none => none
     | none => none
    else none
   | none => none
  | _ => none
 | .makeMap t none => some (.map,.mp .lnil)
 | .makeMap t (some x) => match P.underlying t,ρ x with
  | some (.map _ _),.int _ _ => some (.map,.mp .lnil)
  | _,_ => none
 | .makeSlice t l c => match P.underlying t,ρ l,ρ c with
  | some (.slice e),.int _ (.ofNat n),.int _ (.ofNat m) => match P.info? e with
   | some inf => bif Nat.beq n 0 && Nat.beq m 0 then some (.sl 0 0 inf.size,.cells (2 * e + 1) 0 false .undef) else
    bif Nat.ble n m && (Nat.ble (inf.bytes * m) 281474976710656 && (Nat.ble m 9223372036854775807 && !(Nat.beq (m * inf.size) 0))) then
     match zrep P e (m * inf.size) with
     | some z => some (.sl n m inf.size,.cells (2 * e + 1) (m * inf.size) false z)
     | none => none
    else none
   | none => none
  | _,_,_ => none
 | .convert src dst x => match P.underlying src,P.underlying dst,ρ x with
  | some _,some (.slice e),.str n s => match P.underlying e with
   | some (.int .u8) => some (.sl n n 1,.cells (2 * e) n false (strN n s))
   | _ => none
  | _,_,_ => none
 | .call ⟨.builtin .append,⟨[x,y]⟩,⟨[t,t2]⟩⟩ => match P.underlying t2 with
  | some (.int _) => match P.underlying t,ρ x,ρ y with
   | some (.slice e),.nils,.int .i64 (.ofNat m) => match P.info? e,rowA (zeroA P e) with
    | some inf,some (zn,_) => bif Nat.beq zn inf.size && (Nat.ble (m * inf.bytes) 140737488355328 && (Nat.ble m 9223372036854775807 && !(Nat.beq (m * inf.size) 0))) then
      match zrep P e (m * inf.size) with
      | some z => some (.sl m m inf.size,.cells (2 * e) (m * inf.size) false z)
      | none => none
     else none
    | _,_ => none
   | _,_,_ => none
  | _ => none
 | _ => none
section
variable {P : Program} {σ : Sg} {h : AV} {nx : Nat} {w0 w : World} {B : Fr}
theorem zrep_ok {e : TypeId} {n : Nat} {u : AV} (hz : zrep P e n = some u) (σ : Sg) : ∃ z,(P.info? e).bind (·.zero) = some z ∧ 0 < z.cells.size ∧
  ∀ cs : Array Value,cs.size = n → (∀ i,i < n → cs[i]? = some (z.cells[i % z.cells.size]!)) → RowRel σ n u cs := by
 unfold zrep at hz
 split at hz
 ·rename_i sz s hr
  cases h0 : Nat.beq sz 0 with
  | true => simp [h0] at hz
  | false =>
   simp only [h0,cond_false] at hz
   have hsz0 : sz ≠ 0 := fun e => by rw [beqn_iff.2 e] at h0; cases h0
   have hbad : zeroA P e ≠ .bad := fun hb => by rw [hb] at hr; simp [rowA,scalarA] at hr
   obtain ⟨z,hzv,hzr⟩ := zeroA_ok (P := P) (t := e) rfl hbad σ
   have hrow := rowA_ok hzr hr
   refine ⟨z,hzv,by rw [hrow.1]; omega,fun cs hcs hget => ?_⟩
   have hcell : ∀ i,i < n → cget (lg n) u i = cget (lg sz) s (i % sz) := by
    intro i hi
    cases h1 : Nat.beq sz 1 with
    | true =>
     simp only [h1,cond_true,Option.some.injEq] at hz
     have := beqn_iff.1 h1
     subst this
     rw [← hz,cget_unid]; rfl
    | false =>
     simp only [h1,cond_false] at hz
     have hsz1 : sz ≠ 1 := fun e => by rw [beqn_iff.2 e] at h1; cases h1
     split at hz
     ·rename_i v
      simp only [Option.some.injEq] at hz
      rw [← hz,cget_unid]
      obtain ⟨k,hk⟩ : ∃ k,lg sz = k + 1 := by
       unfold lg
       cases hb : Nat.ble sz 1 with
       | true => have := ble_iff.1 hb; omega
       | false => exact ⟨_,rfl⟩
      rw [hk]; rfl
     ·simp only [Option.some.injEq] at hz
      rw [← hz,cget_cmk _ _ _ _ _ (lg_le n) hi,Nat.zero_add]
   have hval : ∀ i v,cs[i]? = some v → i < n ∧ z.cells[i % sz]? = some v := by
    intro i v hv
    have hi : i < n := by rw [← hcs]; exact (Array.getElem?_eq_some_iff.1 hv).1
    refine ⟨hi,?_⟩
    have := hget i hi
    rw [hv] at this
    simp only [Option.some.injEq] at this
    have hlt : i % sz < z.cells.size := by rw [hrow.1]; exact Nat.mod_lt _ (by omega)
    rw [this,hrow.1,getElem!_pos z.cells (i % sz) hlt]
    exact Array.getElem?_eq_getElem hlt
   refine ⟨hcs,fun i v hv => hrow.2.1 _ v (hval i v hv).2,fun i v hv => ?_⟩
   obtain ⟨hi,hv⟩ := hval i v hv
   rw [hcell i hi]
   exact hrow.2.2 _ v hv
 ·cases hz
theorem range0 : Array.range 0 = #[] := by simp [Array.range]
theorem odd_half (t : Nat) : (2 * t + 1) / 2 = t := by omega
theorem even_half (t : Nat) : 2 * t / 2 = t := by omega
theorem calm0 (n : Nat) : Calm (0,0) n := fun i hi => by simp
theorem HS.row (H : HS σ h nx w0 B w) (hnx : nx < 2 ^ HD) {ty n : Nat} {t : AV} {cs : Array Value} {fr : Nat × Nat} {w' : World} (hw : w'.heap = w.heap.push (.cells cs (ty / 2) fr)) (hex : ty % 2 = 1 → n = cs.size) (h1 : w'.os = w.os) (h2 : w'.tape = w.tape) (h3 : w'.output = w.output)
  (hn : n ≤ cs.size) (hfr : Calm fr cs.size) (hc : ∀ i,i < n → ∃ v,cs[i]? = some v ∧ one v = true ∧ Rel σ (cget (lg n) t i) v) :
  HS (ext σ nx (w.heap.size,0,cs.size)) (cput HD h nx (.cells ty n false t)) (nx + 1) w0 B w' := by
 refine H.new hnx (p := (w.heap.size,0,cs.size)) rfl hw h1 h2 h3 ⟨w.heap.size,0,cs.size,cs,fr,ty / 2,by simp [ext],by rw [hw]; simp,rfl,⟨rfl,by omega,hex⟩,fun i hi => ?_,fun _ => ⟨hfr,.inr H.size⟩,fun _ => rfl⟩
 obtain ⟨v,g1,g2,g3⟩ := hc i hi
 exact ⟨v,by rw [Nat.zero_add]; exact g1,g2,g3.mono (H.sub_ext _)⟩
theorem RowRel.all {n : Nat} {t : AV} {cs : Array Value} (hr : RowRel σ n t cs) : ∀ i,i < n → ∃ v,cs[i]? = some v ∧ one v = true ∧ Rel σ (cget (lg n) t i) v := fun i hi => by
 have hlt : i < cs.size := by rw [hr.1]; exact hi
 have hg : cs[i]? = some cs[i] := Array.getElem?_eq_getElem hlt
 exact ⟨_,hg,hr.2.1 i _ hg,hr.2.2 i _ hg⟩
def NewOk (P : Program) (σ : Sg) (h : AV) (nx : Nat) (w0 : World) (B : Fr) (w : World) (s : Sem Next) (nv : NV) (x : AV) : Prop :=
 ∃ p v w',(s.run P w = .ok (.value v) w') ∧ Rel (ext σ nx p) (nv.at nx) v ∧ HS (ext σ nx p) (cput HD h nx x) (nx + 1) w0 B w'
def NewCore (P : Program) (σ : Sg) (w0 : World) (B : Fr) (w : World) (s : Sem Next) (nv : NV) (x : AV) : Prop :=
 ∃ p v w' ob,s.run P w = .ok (.value v) w' ∧ w'.heap = w.heap.push ob ∧ w'.os = w.os ∧ w'.tape = w.tape ∧ w'.output = w.output ∧ p.1 = w.heap.size ∧ liveW x = true ∧
  ∀ b σ',Sub σ σ' → σ' b = some p → Rel σ' (nv.at b) v ∧ BlkRel σ' w0 B w' b x
theorem row_core (hsz : w0.heap.size ≤ w.heap.size) {ty n : Nat} {t : AV} {cs : Array Value} {fr : Nat × Nat} {w' : World} (hw : w'.heap = w.heap.push (.cells cs (ty / 2) fr)) (hex : ty % 2 = 1 → n = cs.size) (hn : n ≤ cs.size) (hfr : Calm fr cs.size)
  (hc : ∀ i,i < n → ∃ v,cs[i]? = some v ∧ one v = true ∧ Rel σ (cget (lg n) t i) v) {b : Nat} {σ' : Sg} (hs : Sub σ σ') (hb : σ' b = some (w.heap.size,0,cs.size)) : BlkRel σ' w0 B w' b (.cells ty n false t) := by
 refine ⟨w.heap.size,0,cs.size,cs,fr,ty / 2,hb,by rw [hw]; simp,rfl,⟨rfl,by omega,hex⟩,fun i hi => ?_,fun _ => ⟨hfr,.inr hsz⟩,fun _ => rfl⟩
 obtain ⟨v,g1,g2,g3⟩ := hc i hi
 exact ⟨v,by rw [Nat.zero_add]; exact g1,g2,g3.mono hs⟩
theorem run_append_zero {t t2 e oty : TypeId} {kn : IntKind} {inf : TypeInfo} {z : Value} {m : Nat} (hu : P.underlying t = some (.slice e)) (hu2 : P.underlying t2 = some (.int kn)) (hi : P.info? e = some inf) (hz : inf.zero = some z) (hb : m * inf.bytes ≤ 140737488355328) (h63 : m ≤ 9223372036854775807) (hms : m * inf.size ≠ 0) :
  (Builtin.append_ #[t,t2] oty #[.slice none 0 0,.int .i64 (m : Int)]).run P w = .ok (.slice (some ⟨w.heap.size,0,none⟩) m ((Question.appendCap m 0 e).cut (w.tape w.drawn (.appendCap m 0 e))))
   ({ w with drawn := w.drawn + 1 }.alloc (.cells (Builtin.zeroCells z.cells m ++ Builtin.zeroCells z.cells ((Question.appendCap m 0 e).cut (w.tape w.drawn (.appendCap m 0 e)) - m)) e (0,0))) := by
 have hw : IntKind.i64.wrap (m : Int) = (m : Int) := K.wrap_in ⟨(show (-9223372036854775808 : Int) ≤ (m : Int) by omega),(show (m : Int) ≤ 9223372036854775807 by omega)⟩
 have h0 : ¬ ((m : Int) < 0) := by omega
 have h48 : ¬ ((m : Int) * (inf.bytes : Int) > 281474976710656) := by
  have h9 := Int.ofNat_le.2 hb
  rw [Int.natCast_mul] at h9
  have h8 : ((140737488355328 : Nat) : Int) = 140737488355328 := rfl
  rw [h8] at h9
  omega
 have hm0 : m ≠ 0 := fun e => hms (by rw [e,Nat.zero_mul])
 have h63' : ¬ (9223372036854775807 < (m : Int)) := by omega
 have hfit := growslice_fits (show 0 < m by omega) hb
 have h48' : ¬ (281474976710656 < Builtin.nextslicecap m 0 * inf.bytes) := by omega
 have hzv : ∀ w,(zeroValue e).run P w = .ok z w := fun w => by simp [zeroValue,typeInfo,program,Sem.run,hi,hz]
 have hai : (asIntOf (.int .i64 (m : Int))).run P w = .ok (.i64,(m : Int)) w := rfl
 simp [Builtin.append_,run_underlying' hu,run_underlying' hu2,run_sizeOf' hi,asInt,hai,typeInfo,hi,hw,h0,h48,Builtin.lenOf,hm0,h63',h48',Question.forced,Builtin.firstCells,hzv,newRow]
 exact fun h => absurd h hms
theorem anew_core {ρ : Operand → AV} {ev : Operand → Value} {o : Oper} {nv : NV} {x : AV} (hsz : w0.heap.size ≤ w.heap.size) (hρ : ∀ x,Rel σ (ρ x) (ev x)) (ha : anew P ρ o = some (nv,x)) :
  NewCore P σ w0 B w (execOp ev o) nv x := by
 obtain ⟨dst,op,oty,pos,after,guard⟩ := o
 unfold anew at ha
 dsimp only at ha
 split at ha
 ·rename_i t
  split at ha
  ·rename_i n s hr
   simp only [Option.some.injEq,Prod.mk.injEq] at ha
   obtain ⟨rfl,rfl⟩ := ha
   have hbad : zeroA P t ≠ .bad := fun hb => by rw [hb] at hr; simp [rowA,scalarA] at hr
   obtain ⟨z,hzv,hzr⟩ := zeroA_ok (P := P) (t := t) rfl hbad σ
   have hrow := rowA_ok hzr hr
   refine ⟨(w.heap.size,0,z.cells.size),_,w.alloc (.cells z.cells t (0,0)),.cells z.cells t (0,0),?_,rfl,rfl,rfl,rfl,rfl,rfl,fun b σ' hs hb => ⟨.ptr _ _ w.heap.size 0 z.cells.size 0 hb rfl,row_core hsz (by rw [odd_half]; rfl) (fun _ => hrow.1.symm) (by rw [hrow.1]; exact Nat.le_refl _) (calm0 _) hrow.all hs hb⟩⟩
   simp [execOp,Instr.alloc,run_zeroValue hzv,newVar,newRow,newObj,Sem.run]
  ·cases ha
 ·rename_i t y
  split at ha
  ·rename_i n s hr
   simp only [Option.some.injEq,Prod.mk.injEq] at ha
   obtain ⟨rfl,rfl⟩ := ha
   have hrow := rowA_ok (hρ y) hr
   refine ⟨(w.heap.size,0,(ev y).cells.size),_,w.alloc (.cells (ev y).cells t (0,0)),.cells (ev y).cells t (0,0),?_,rfl,rfl,rfl,rfl,rfl,rfl,fun b σ' hs hb => ⟨.ptr _ _ w.heap.size 0 (ev y).cells.size 0 hb rfl,row_core hsz (by rw [odd_half]; rfl) (fun _ => hrow.1.symm) (by rw [hrow.1]; exact Nat.le_refl _) (calm0 _) hrow.all hs hb⟩⟩
   simp [execOp,Instr.box,newVar,newRow,newObj,Sem.run]
  ·cases ha
 ·rename_i t len ps
  split at ha
  ·rename_i e hu
   split at ha
   ·rename_i inf hinf
    cases hz0 : (Nat.beq len 0 && Nat.beq ps.size 0) with
    | true =>
     simp only [hz0,cond_true,Option.some.injEq,Prod.mk.injEq] at ha
     obtain ⟨rfl,rfl⟩ := ha
     simp only [Bool.and_eq_true] at hz0
     have e1 := beqn_iff.1 hz0.1
     have e2 : ps = #[] := Array.eq_empty_of_size_eq_zero (beqn_iff.1 hz0.2)
     subst e1; subst e2
     refine ⟨(w.heap.size,0,0),_,w.alloc (.cells #[] e (0,0)),.cells #[] e (0,0),?_,rfl,rfl,rfl,rfl,rfl,rfl,fun b σ' hs hb => ⟨.sl _ _ _ _ _ w.heap.size 0 0 0 0 hb (Nat.le_refl _) (Nat.le_refl _) (fun _ => rfl) (by simp),⟨w.heap.size,0,0,#[],(0,0),e,hb,K.get_alloc w _,rfl,⟨rfl,Nat.le_refl _,fun _ => rfl⟩,fun i hi => absurd hi (Nat.not_lt_zero i),fun _ => ⟨calm0 _,.inr hsz⟩,fun _ => (odd_half e).symm⟩⟩⟩
     simp only [execOp]
     refine run_v ?_
     simp only [Instr.buildSlice,Sem.run_bind,run_underlying' hu,Result.andThen_ok,run_sizeOf' hinf,Nat.zero_mul]
     simp [newRow,newObj,Sem.run,Instr.fill,range0]
    | false =>
    simp only [hz0,cond_false] at ha
    cases hb : (Nat.ble (len * inf.size) 16777216 && !(Nat.beq (len * inf.size) 0)) with
    | false => simp [hb] at ha
    | true =>
     simp only [hb,cond_true] at ha
     simp only [Bool.and_eq_true,Bool.not_eq_true'] at hb
     have e1 := ble_iff.1 hb.1
     have e2 : len * inf.size ≠ 0 := fun e => by rw [beqn_iff.2 e] at hb; simp at hb
     split at ha
     ·rename_i z hz
      split at ha
      ·rename_i u hf
       simp only [Option.some.injEq,Prod.mk.injEq] at ha
       obtain ⟨rfl,rfl⟩ := ha
       obtain ⟨zv,hzv,hz0,hzr⟩ := zrep_ok hz σ
       obtain ⟨q1,q2⟩ := parts_rel hρ ps
       have hrow := hzr ((Array.range (len * inf.size)).map (zv.cells[· % zv.cells.size]!)) (by simp) (fun i hi => by simp [hi])
       obtain ⟨cs,h6,h7⟩ := fillA_ok q1 q2 hrow hf
       refine ⟨(w.heap.size,0,cs.size),_,w.alloc (.cells cs e (0,0)),.cells cs e (0,0),?_,rfl,rfl,rfl,rfl,rfl,rfl,fun b σ' hs hb => ⟨.sl _ _ _ _ _ w.heap.size 0 cs.size 0 len hb (Nat.le_refl _) (Nat.le_refl _) (fun _ => rfl) (by rw [h7.1]; omega),row_core hsz (by rw [odd_half]; rfl) (fun _ => h7.1.symm) (by rw [h7.1]; exact Nat.le_refl _) (calm0 _) h7.all hs hb⟩⟩
       have e3 : ¬ (len * inf.size > 2 ^ 24) := by omega
       simp only [execOp]
       refine run_v ?_
       simp only [Instr.buildSlice,Sem.run_bind,run_underlying' hu,Result.andThen_ok,run_sizeOf' hinf,e3,if_false,e2,run_zeroValue hzv,Sem.run_pure,h6]
       simp [newRow,newObj,Sem.run]
      ·cases ha
     ·cases ha
   ·cases ha
  ·cases ha
 ·rename_i t
  simp only [Option.some.injEq,Prod.mk.injEq] at ha
  obtain ⟨rfl,rfl⟩ := ha
  refine ⟨(w.heap.size,0,0),_,w.alloc (.map #[] 0),.map #[] 0,?_,rfl,rfl,rfl,rfl,rfl,rfl,fun b σ' hs hb => ⟨.map _ w.heap.size 0 0 hb,⟨w.heap.size,0,0,#[],0,hb,K.get_alloc w _,⟨trivial,Go.MapKept.stamped_empty 0⟩,.inr hsz⟩⟩⟩
  simp [execOp,Instr.makeMap,newObj,Sem.run]
 ·rename_i t y
  split at ha
  ·rename_i k e kk m hu he
   simp only [Option.some.injEq,Prod.mk.injEq] at ha
   obtain ⟨rfl,rfl⟩ := ha
   have hy := hρ y
   rw [he] at hy
   generalize hyv : ev y = yv at hy
   cases hy
   refine ⟨(w.heap.size,0,0),_,w.alloc (.map #[] 0),.map #[] 0,?_,rfl,rfl,rfl,rfl,rfl,rfl,fun b σ' hs hb => ⟨.map _ w.heap.size 0 0 hb,⟨w.heap.size,0,0,#[],0,hb,K.get_alloc w _,⟨trivial,Go.MapKept.stamped_empty 0⟩,.inr hsz⟩⟩⟩
   simp [execOp,Instr.makeMap,newObj,Sem.run,hyv,run_underlying' hu,asInt,asIntOf]
  ·cases ha
 ·rename_i t l c
  split at ha
  ·rename_i e k1 n k2 m hu he1 he2
   split at ha
   ·rename_i inf hinf
    cases hz0 : (Nat.beq n 0 && Nat.beq m 0) with
    | true =>
     simp only [hz0,cond_true,Option.some.injEq,Prod.mk.injEq] at ha
     obtain ⟨rfl,rfl⟩ := ha
     simp only [Bool.and_eq_true] at hz0
     have e1 := beqn_iff.1 hz0.1
     have e2 := beqn_iff.1 hz0.2
     subst e1; subst e2
     have hl := hρ l
     have hc := hρ c
     rw [he1] at hl
     rw [he2] at hc
     generalize hlv : ev l = lv at hl
     generalize hcv : ev c = cv at hc
     cases hl; cases hc
     refine ⟨(w.heap.size,0,0),.slice (some ⟨w.heap.size,0,none⟩) 0 0,w.alloc (.cells #[] e (0,0)),.cells #[] e (0,0),?_,rfl,rfl,rfl,rfl,rfl,rfl,fun b σ' hs hb => ⟨.sl _ _ _ _ _ w.heap.size 0 0 0 0 hb (Nat.le_refl _) (Nat.le_refl _) (fun _ => rfl) (by simp),⟨w.heap.size,0,0,#[],(0,0),e,hb,K.get_alloc w _,rfl,⟨rfl,Nat.le_refl _,fun _ => rfl⟩,fun i hi => absurd hi (Nat.not_lt_zero i),fun _ => ⟨calm0 _,.inr hsz⟩,fun _ => (odd_half e).symm⟩⟩⟩
     have w1 : IntKind.i64.wrap (Int.ofNat 0) = Int.ofNat 0 := K.wrap_in (by simp [K.lo,K.hi])
     have c1 : ¬ ((Int.ofNat 0 : Int) < 0) := by simp
     have c2 : ¬ ((inf.bytes : Int) * (Int.ofNat 0 : Int) > 2 ^ 48) := by simp
     have c4 : ¬ ((Int.ofNat 0 : Int) > Int.ofNat 0) := by simp
     have hti : (typeInfo e).run P w = .ok inf w := by simp [typeInfo,program,Sem.run,hinf]
     have har : (askRoom ((Int.ofNat 0).toNat * inf.bytes)).run P w = .ok () w := by
      unfold askRoom
      split <;> rfl
     simp only [execOp]
     refine run_v ?_
     simp only [Instr.makeSlice,Sem.run_bind,run_underlying' hu,Result.andThen_ok,hlv,hcv,asInt,asIntOf,Sem.run_pure,hti,w1,c1,c2,c4,decide_false,Bool.or_self,Bool.false_eq_true,if_false,har,run_sizeOf' hinf]
     rw [show (Int.ofNat 0).toNat = 0 from rfl]
     simp only [Nat.zero_mul,if_true,Sem.run_bind,Result.andThen_ok,Sem.run_pure]
     simp [newRow,newObj,Sem.run,range0]
    | false =>
    simp only [hz0,cond_false] at ha
    cases hb : (Nat.ble n m && (Nat.ble (inf.bytes * m) 281474976710656 && (Nat.ble m 9223372036854775807 && !(Nat.beq (m * inf.size) 0)))) with
    | false => simp [hb] at ha
    | true =>
     simp only [hb,cond_true] at ha
     simp only [Bool.and_eq_true,Bool.not_eq_true'] at hb
     have e1 := ble_iff.1 hb.1
     have e2 := ble_iff.1 hb.2.1
     have e4 := ble_iff.1 hb.2.2.1
     have e3 : m * inf.size ≠ 0 := fun e => by rw [beqn_iff.2 e] at hb; simp at hb
     split at ha
     ·rename_i z hz
      simp only [Option.some.injEq,Prod.mk.injEq] at ha
      obtain ⟨rfl,rfl⟩ := ha
      have hl := hρ l
      have hc := hρ c
      rw [he1] at hl
      rw [he2] at hc
      generalize hlv : ev l = lv at hl
      generalize hcv : ev c = cv at hc
      cases hl; cases hc
      obtain ⟨zv,hzv,hz0,hzr⟩ := zrep_ok hz σ
      have hrow := hzr ((Array.range (m * inf.size)).map (zv.cells[· % zv.cells.size]!)) (by simp) (fun i hi => by simp [hi])
      generalize hcs : (Array.range (m * inf.size)).map (zv.cells[· % zv.cells.size]!) = cs at hrow
      refine ⟨(w.heap.size,0,cs.size),.slice (some ⟨w.heap.size,0,none⟩) n m,w.alloc (.cells cs e (0,0)),.cells cs e (0,0),?_,rfl,rfl,rfl,rfl,rfl,rfl,fun b σ' hs hb => ⟨.sl _ _ _ _ _ w.heap.size 0 cs.size 0 m hb e1 (Nat.le_refl _) (fun _ => rfl) (by rw [hrow.1]; omega),row_core hsz (by rw [odd_half]; rfl) (fun _ => hrow.1.symm) (by rw [hrow.1]; exact Nat.le_refl _) (calm0 _) hrow.all hs hb⟩⟩
      have w1 : IntKind.i64.wrap (Int.ofNat n) = Int.ofNat n := K.wrap_in (by simp [K.lo,K.hi]; omega)
      have w2 : IntKind.i64.wrap (Int.ofNat m) = Int.ofNat m := K.wrap_in (by simp [K.lo,K.hi]; omega)
      have c1 : ¬ ((Int.ofNat m : Int) < 0) := by simp
      have c2 : ¬ ((inf.bytes : Int) * (Int.ofNat m : Int) > 2 ^ 48) := by
       have : ((inf.bytes * m : Nat) : Int) ≤ 281474976710656 := by omega
       simp only [Int.natCast_mul] at this
       simp only [Int.ofNat_eq_natCast]; omega
      have c3 : ¬ ((Int.ofNat n : Int) < 0) := by simp
      have c4 : ¬ ((Int.ofNat n : Int) > Int.ofNat m) := by simp; omega
      have hti : (typeInfo e).run P w = .ok inf w := by simp [typeInfo,program,Sem.run,hinf]
      have har : (askRoom ((Int.ofNat m).toNat * inf.bytes)).run P w = .ok () w := by
       unfold askRoom
       split <;> rfl
      simp only [execOp]
      refine run_v ?_
      simp only [Instr.makeSlice,Sem.run_bind,run_underlying' hu,Result.andThen_ok,hlv,hcv,asInt,asIntOf,Sem.run_pure,hti,w1,w2,c1,c2,c3,c4,decide_false,Bool.or_self,Bool.false_eq_true,if_false,har,run_sizeOf' hinf]
      rw [show (Int.ofNat m).toNat = m from rfl,show (Int.ofNat n).toNat = n from rfl]
      simp only [e3,if_false,Sem.run_bind,run_zeroValue hzv,Result.andThen_ok,Sem.run_pure,hcs]
      simp [newRow,newObj,Sem.run]
     ·cases ha
   ·cases ha
  ·cases ha
 ·rename_i src dst y
  split at ha
  ·rename_i d0 e n s hu1 hu2 he
   split at ha
   ·rename_i hue
    simp only [Option.some.injEq,Prod.mk.injEq] at ha
    obtain ⟨rfl,rfl⟩ := ha
    have hy := hρ y
    rw [he] at hy
    generalize hyv : ev y = yv at hy
    cases hy with
    | str t _ _ hn hs =>
    subst hn; subst hs
    let cap := (Question.appendCap t.size 0 e).cut (w.tape w.drawn (.appendCap t.size 0 e))
    have hcap : t.size ≤ cap := Nat.le_add_right _ _
    let cs : Array Value := (t.data.map fun b => Value.int .u8 b.toNat) ++ Array.replicate (cap - t.size) (.int .u8 0)
    have hcs : cs.size = cap := by simp [cs]; show t.size + (cap - t.size) = cap; omega
    let w1 : World := { w with drawn := w.drawn + 1 }
    let w2 : World := (w1.alloc (.cells cs e (0,0))).freeze ⟨w.heap.size,cap,none⟩ 1
    have hw2 : w2.heap = w1.heap.push (.cells cs e (cap,cap + 1)) := by
     simp only [w2,World.freeze,World.alloc,Nat.one_ne_zero,if_false]
     apply Array.ext_getElem?
     intro k
     simp only [Array.getElem?_modify]
     by_cases hk : w.heap.size = k
     ·subst hk; simp [w1]
     ·simp only [hk,if_false]
      simp only [Array.getElem?_push,w1]
      rw [if_neg (fun h => hk h.symm),if_neg (fun h => hk h.symm)]
    have hget : ∀ i,i < t.size → cs[i]? = some (.int .u8 (Int.ofNat (sbyte t.size (val t.data.toList) i))) := fun i hi => by
     have hl : i < t.data.toList.length := by simpa using hi
     have hg := val_get hl
     have hlen : t.data.toList.length = t.size := by simp
     rw [hlen] at hg
     have hi' : i < t.data.size := hi
     simp only [cs]
     rw [Array.getElem?_append_left (by simpa using hi')]
     simp only [Array.getElem?_map,Array.getElem?_eq_getElem hi',Option.map_some,← hg]
     simp
    refine ⟨(w.heap.size,0,cs.size),.slice (some ⟨w.heap.size,0,none⟩) t.size cap,w2,.cells cs e (cap,cap + 1),?_,hw2,rfl,rfl,rfl,rfl,rfl,fun b σ' hs hb => ⟨.sl _ _ _ _ _ w.heap.size 0 cs.size 0 cap hb (Nat.le_refl _) hcap (fun _ => rfl) (by rw [hcs]; omega),?_⟩⟩
    ·have hstb : (Conv.stringToBytes e t).run P w = .ok (.slice (some ⟨w.heap.size,0,none⟩) t.size cap) w2 := by
      have hsh : (w1.alloc (.cells cs e (0,0))).shape? w.heap.size = some (e,cap) := by
       simp [World.shape?,World.alloc,w1,hcs]
      have hsh' : World.shape? { w1 with heap := w1.heap.push (.cells cs e (0,0)) } w.heap.size = some (e,cap) := hsh
      unfold Conv.stringToBytes
      simp only [Sem.run_bind]
      show _ = Result.ok (Value.slice (some ⟨w.heap.size,0,none⟩) t.size cap) w2
      simp only [choose,Sem.run,Question.forced,Bool.false_eq_true,if_false,Result.andThen_ok,newRow,newObj,Sem.run_bind,Sem.run_pure]
      simp only [markStringish,shape,Sem.run_bind,Sem.run]
      have hh : World.shape? { heap := w.heap.push (.cells ((t.data.map fun b => Value.int .u8 b.toNat) ++ Array.replicate ((Question.appendCap t.size 0 e).cut (w.tape w.drawn (.appendCap t.size 0 e)) - t.size) (.int .u8 0)) e),tape := w.tape,drawn := w.drawn + 1,os := w.os,output := w.output } w.heap.size = some (e,cap) := hsh'
      rw [hh]
      rfl
     simp only [execOp]
     refine run_v ?_
     simp only [convert,Sem.run_bind,run_underlying' hu1,run_underlying' hu2,Result.andThen_ok,hyv,run_underlying' hue,hstb]
    ·exact row_core (w := w1) hsz (by rw [even_half]; exact hw2) (fun h => by omega) (by rw [hcs]; exact hcap) (fun i hi => by
      rw [hcs] at hi
      simp; omega) (fun i hi => ⟨_,hget i hi,rfl,by rw [cget_strN hi]; exact .int _ _⟩) hs hb
   ·cases ha
  ·cases ha
 ·rename_i x y t t2
  split at ha
  ·rename_i kn hu2
   split at ha
   ·rename_i e m hu he1 he2
    split at ha
    ·rename_i inf zn zs hinf hzr
     cases hb : (Nat.beq zn inf.size && (Nat.ble (m * inf.bytes) 140737488355328 && (Nat.ble m 9223372036854775807 && !(Nat.beq (m * inf.size) 0)))) with
     | false => simp [hb] at ha
     | true =>
      simp only [hb,cond_true] at ha
      simp only [Bool.and_eq_true,Bool.not_eq_true'] at hb
      have e0 := beqn_iff.1 hb.1
      have e1 := ble_iff.1 hb.2.1
      have e2 := ble_iff.1 hb.2.2.1
      have e3 : m * inf.size ≠ 0 := fun e => by rw [beqn_iff.2 e] at hb; simp at hb
      split at ha
      ·rename_i z hz
       simp only [Option.some.injEq,Prod.mk.injEq] at ha
       obtain ⟨rfl,rfl⟩ := ha
       have hl := hρ x
       have hc := hρ y
       rw [he1] at hl
       rw [he2] at hc
       generalize hlv : ev x = lv at hl
       generalize hcv : ev y = cv at hc
       cases hl; cases hc
       obtain ⟨zv,hzv,hz0,hzr2⟩ := zrep_ok hz σ
       have hbad : zeroA P e ≠ .bad := fun hb => by rw [hb] at hzr; simp [rowA,scalarA] at hzr
       obtain ⟨z2,hz2,hz3⟩ := zeroA_ok (P := P) (t := e) rfl hbad σ
       have hzs := (rowA_ok hz3 hzr).1
       rw [hzv] at hz2
       simp only [Option.some.injEq] at hz2
       subst hz2
       rw [e0] at hzs
       have hzi : inf.zero = some zv := by rw [hinf] at hzv; exact hzv
       have hrow := hzr2 (Builtin.zeroCells zv.cells m) (by simp [Builtin.zeroCells,hzs]) (fun i hi => by simp [Builtin.zeroCells,hzs,hi])
       have hrun := run_append_zero (w := w) (oty := oty) hu hu2 hinf hzi e1 e2 e3
       have hcap : m ≤ (Question.appendCap m 0 e).cut (w.tape w.drawn (.appendCap m 0 e)) := Nat.le_add_right _ _
       generalize (Question.appendCap m 0 e).cut (w.tape w.drawn (.appendCap m 0 e)) = cap at hrun hcap
       generalize hcs : Builtin.zeroCells zv.cells m ++ Builtin.zeroCells zv.cells (cap - m) = cs at hrun
       have hsz2 : cs.size = cap * inf.size := by
        rw [← hcs,Array.size_append]
        simp only [Builtin.zeroCells,Array.size_map,Array.size_range,hzs]
        rw [← Nat.add_mul]; congr 1; omega
       have hle : m * inf.size ≤ cs.size := by rw [hsz2]; exact Nat.mul_le_mul_right _ hcap
       refine ⟨(w.heap.size,0,cs.size),.slice (some ⟨w.heap.size,0,none⟩) m cap,World.alloc { w with drawn := w.drawn + 1 } (.cells cs e (0,0)),.cells cs e (0,0),run_v (by simp [hlv,hcv]; exact hrun),rfl,rfl,rfl,rfl,rfl,rfl,fun b σ' hs hb => ⟨.sl _ _ _ _ _ w.heap.size 0 cs.size 0 cap hb (Nat.le_refl _) hcap (fun _ => rfl) (by rw [hsz2,Nat.zero_add]; exact Nat.le_refl _),row_core (w := { w with drawn := w.drawn + 1 }) hsz (by rw [even_half]; rfl) (fun h => by omega) hle (calm0 _) (fun i hi => ?_) hs hb⟩⟩
       obtain ⟨v,g1,g2,g3⟩ := hrow.all i hi
       refine ⟨v,?_,g2,g3⟩
       rw [← hcs,Array.getElem?_append_left (by rw [hrow.1]; exact hi)]; exact g1
      ·cases ha
    ·cases ha
   ·cases ha
  ·cases ha
 ·cases ha
theorem anew_ok {ρ : Operand → AV} {ev : Operand → Value} {o : Oper} {nv : NV} {x : AV} (H : HS σ h nx w0 B w) (hnx : nx < 2 ^ HD) (hρ : ∀ x,Rel σ (ρ x) (ev x)) (ha : anew P ρ o = some (nv,x)) :
  NewOk P σ h nx w0 B w (execOp ev o) nv x := by
 obtain ⟨p,v,w',ob,h1,h2,h3,h4,h5,h6,_,h7⟩ := anew_core (P := P) (w0 := w0) (B := B) H.size hρ ha
 obtain ⟨h8,h9⟩ := h7 nx (ext σ nx p) (H.sub_ext p) (by simp [ext])
 exact ⟨p,v,w',h1,h8,H.new hnx h6 h2 h3 h4 h5 h9⟩
end
end I
end Go.Proofs.YtojefiolcedigaaGreatDoor
namespace Go.Proofs.YtojefiolcedigaaGreatDoor
namespace I
open K (one aggB run_underlying' run_sizeOf' add_none run_v cell_cells)
set_option linter.unusedVariables false
def grow : Nat → Nat → AV → AV
 | 0,_,t => t
 | k + 1,d,t => grow k (d + 1) (.node t (unid d .undef))
theorem cget_grow : ∀ (k d : Nat) (t : AV) (i : Nat),i < 2 ^ d → cget (d + k) (grow k d t) i = cget d t i
 | 0,d,t,i,_ => rfl
 | k + 1,d,t,i,hi => by
  have hp : 2 ^ (d + 1) = 2 ^ d + 2 ^ d := by rw [Nat.pow_succ]; omega
  have ih := cget_grow k (d + 1) (.node t (unid d .undef)) i (by omega)
  rw [show d + (k + 1) = (d + 1) + k by omega]
  rw [grow,ih,cget_kids,blt_iff.2 hi]; rfl
def catA (n : Nat) (s : AV) (m : Nat) (u : AV) : AV := cblit (lg (n + m)) (grow (lg (n + m) - lg n) (lg n) s) n m u
theorem lg_mono {n m : Nat} (h : n ≤ m) : lg n ≤ lg m := by
 unfold lg
 cases h1 : Nat.ble n 1 with
 | true => simp
 | false =>
  have hn : ¬ n ≤ 1 := fun hh => by rw [ble_iff.2 hh] at h1; cases h1
  have hm : Nat.ble m 1 = false := by
   cases h2 : Nat.ble m 1 with
   | false => rfl
   | true => have := ble_iff.1 h2; omega
  rw [hm]
  simp only [cond_false,Nat.add_le_add_iff_right]
  rw [Nat.le_log2 (by omega)]
  exact Nat.le_trans (Nat.log2_self_le (by omega)) (by omega)
theorem cget_catA {n m : Nat} {s u : AV} {i : Nat} (hi : i < n + m) : cget (lg (n + m)) (catA n s m u) i = if i < n then cget (lg n) s i else cget (lg m) u (i - n) := by
 have h1 := lg_le (n + m)
 have h2 := lg_le n
 unfold catA
 rw [cget_cblit (by omega) (by omega)]
 have hd : lg (n + m) = lg n + (lg (n + m) - lg n) := by have := lg_mono (show n ≤ n + m by omega); omega
 by_cases hin : i < n
 ·rw [if_neg (by omega),if_pos hin]
  conv => lhs; rw [hd]
  rw [show lg n + (lg (n + m) - lg n) - lg n = lg (n + m) - lg n by omega]
  exact cget_grow _ _ _ _ (by omega)
 ·rw [if_pos (by omega),if_neg hin]
section
variable {P : Program} {σ : Sg} {h : AV} {nx : Nat} {w0 w : World} {B : Fr}
theorem spl_get : ∀ (vs : List Value) (cs : Array Value) (off : Nat),off + vs.length ≤ cs.size → (K.spl cs off vs).size = cs.size ∧ ∀ j,(K.spl cs off vs)[j]? = if off ≤ j ∧ j < off + vs.length then vs[j - off]? else cs[j]?
 | [],cs,off,_ => ⟨rfl,fun j => by rw [if_neg (by simp)]; rfl⟩
 | v :: vs,cs,off,hl => by
  simp only [List.length_cons] at hl
  obtain ⟨h1,h2⟩ := spl_get vs (cs.setIfInBounds off v) (off + 1) (by simp; omega)
  refine ⟨by rw [K.spl,h1]; simp,fun j => ?_⟩
  rw [K.spl,h2 j]
  by_cases hjo : j = off
  ·subst hjo
   rw [if_neg (by omega),if_pos (by simp),Array.getElem?_setIfInBounds]
   simp; omega
  ·by_cases hin : off + 1 ≤ j ∧ j < off + 1 + vs.length
   ·rw [if_pos hin,if_pos (by simp; omega),show j - off = (j - (off + 1)) + 1 by omega,List.getElem?_cons_succ]
   ·rw [if_neg hin,if_neg (by simp; omega),Array.getElem?_setIfInBounds,if_neg (by omega)]
theorem run_storeCells {b off : Nat} {t : TypeId} {fr : Nat × Nat} : ∀ (vs : List Value) (i : Nat) (cs : Array Value) (w : World),w.heap[b]? = some (.cells cs t fr) → Calm fr cs.size → off + i + vs.length ≤ cs.size → (∀ v ∈ vs,one v = true) →
  ∃ w',(storeCells ⟨b,off,none⟩ vs i).run P w = .ok () w' ∧ w'.heap = w.heap.setIfInBounds b (.cells (K.spl cs (off + i) vs) t fr) ∧ w'.os = w.os ∧ w'.tape = w.tape ∧ w'.output = w.output
 | [],i,cs,w,hb,_,_,_ => by
  refine ⟨w,rfl,?_,rfl,rfl,rfl⟩
  simp only [K.spl]
  apply Array.ext_getElem?
  intro k
  have hlt := lt_of_get hb
  by_cases hk : b = k
  ·subst hk; rw [hb]; simp [hlt]
  ·simp [hk]
 | v :: vs,i,cs,w,hb,hcm,hl,h1 => by
  have hi : off + i < cs.size := by simp at hl; omega
  have hc : w.cell? ⟨b,off + i,none⟩ = some (cs[off + i]) := by rw [cell_cells hb]; exact Array.getElem?_eq_getElem hi
  have hfz : w.frozen? ⟨b,off + i,none⟩ = false := by
   simp only [World.frozen?,hb]
   exact hcm _ hi
  have hv1 := h1 v (List.mem_cons_self ..)
  have hst : (store (Addr.add ⟨b,off,none⟩ i) v).run P w = .ok () (w.setCell ⟨b,off + i,none⟩ v) := by
   rw [add_none]
   unfold store
   cases v <;> simp [K.one] at hv1 <;> simp [Sem.run,hc,hfz]
  have hh := K.setCell_heap (off := off + i) (v := v) hb
  have hb' : (w.setCell ⟨b,off + i,none⟩ v).heap[b]? = some (.cells (cs.setIfInBounds (off + i) v) t fr) := by rw [hh]; simp [lt_of_get hb]
  obtain ⟨w',hr,hw,h2,h3,h4⟩ := run_storeCells (off := off) vs (i + 1) _ _ hb' (by simpa using hcm) (by simp at hl ⊢; omega) (fun x hx => h1 x (List.mem_cons_of_mem _ hx))
  refine ⟨w',?_,?_,h2,h3,h4⟩
  ·unfold storeCells
   simp only [Sem.run_bind,hst,Result.andThen_ok,hr]
  ·rw [hw,hh]
   simp only [K.spl]
   apply Array.ext_getElem?
   intro k
   by_cases hk : b = k
   ·subst hk; simp [lt_of_get hb,Nat.add_assoc]
   ·simp [hk]
theorem HS.write (H : HS σ h nx w0 B w) {b r base size ty n off m : Nat} {t s : AV} {vs : Array Value} (hs : σ b = some (r,base,size)) (hc : cget HD h b = .cells ty n false t) (hv : RowRel σ m s vs) (ho : off + m ≤ n) :
  ∃ w',(storeCells ⟨r,base + off,none⟩ vs.toList 0).run P w = .ok () w' ∧ HS σ (cput HD h b (.cells ty n false (cblit (lg n) t off m s))) nx w0 B w' := by
 obtain ⟨cs,fr,h1,h2,h3,h4,h5⟩ := H.cellsT hs hc (.inl rfl)
 obtain ⟨h6,h7⟩ := h5 rfl
 have hlen : vs.toList.length = m := by simpa using hv.1
 obtain ⟨w',hr,hw,g1,g2,g3⟩ := run_storeCells (P := P) (off := base + off) vs.toList 0 cs w h1 (by rw [h2]; exact h6) (by rw [hlen]; omega) (fun v hm => by
  obtain ⟨i,hi⟩ := List.mem_iff_getElem?.1 hm
  exact hv.2.1 i v (by simpa using hi))
 refine ⟨w',hr,?_⟩
 obtain ⟨e1,e2⟩ := spl_get vs.toList cs (base + off + 0) (by rw [hlen]; omega)
 have hn := lg_le n
 have hb' : w'.heap[r]? = some (.cells (K.spl cs (base + off + 0) vs.toList) (ty / 2) fr) := by rw [hw]; simp [lt_of_get h1]
 refine H.upd hs (by rw [hc]; rfl) h7 hw g1 g2 g3 ⟨r,base,size,_,fr,ty / 2,hs,hb',by rw [e1]; exact h2,h3,fun i hi => ?_,fun _ => ⟨h6,h7⟩,fun _ => rfl⟩
 rw [e2 (base + i),hlen,cget_cblit (by omega) (by omega)]
 by_cases hin : off ≤ i ∧ i < off + m
 ·rw [if_pos (by omega),if_pos hin]
  have hlt : i - off < vs.size := by rw [hv.1]; omega
  have hg : vs[i - off]? = some vs[i - off] := Array.getElem?_eq_getElem hlt
  refine ⟨_,?_,hv.2.1 _ _ hg,hv.2.2 _ _ hg⟩
  rw [show base + i - (base + off + 0) = i - off by omega]
  simp
 ·rw [if_neg (by omega),if_neg hin]
  exact h4 i hi
def lenA : AV → Option Nat
 | .sl _ _ n _ _ => some n
 | .nils => some 0
 | .str n _ => some n
 | _ => none
def firstA (h : AV) (sz k : Nat) (y : AV) : Option AV :=
 bif Nat.beq k 0 then some .undef else
 match y with
 | .sl b off len lb sz' => match cget HD h b with
  | .cells _ n _ t => bif Nat.beq sz sz' && (Nat.ble (off + k * sz) n && !(Nat.beq lb 0)) then some (crow (lg n) t off (k * sz)) else none
  | _ => none
 | .str m x => bif Nat.beq sz 1 && Nat.ble k m then some (strN k (x / 256 ^ (m - k))) else none
 | _ => none
theorem lenA_ok {y : AV} {yv : Value} {n : Nat} (hy : Rel σ y yv) (hl : lenA y = some n) : (Builtin.lenOf yv).run P w = .ok n w := by
 cases hy <;> simp only [lenA,Option.some.injEq,reduceCtorEq] at hl
 ·subst hl; rename_i hn _; subst hn; rfl
 ·subst hl; rfl
 ·subst hl; rfl
theorem firstA_ok {sz k n : Nat} {y u : AV} {yv : Value} (H : HS σ h nx w0 B w) (hy : Rel σ y yv) (hl : lenA y = some n) (hk : k ≤ n) (hf : firstA h sz k y = some u) :
  ∃ cs,(∀ w1 : World,w1.heap = w.heap → (Builtin.firstCells sz k yv).run P w1 = .ok cs w1) ∧ RowRel σ (k * sz) u cs := by
 unfold firstA at hf
 cases h0 : Nat.beq k 0 with
 | true =>
  have := beqn_iff.1 h0
  subst this
  simp only [h0,cond_true,Option.some.injEq] at hf
  subst hf
  refine ⟨#[],fun w1 hw1 => ?_,by simp,fun i v hv => by simp at hv,fun i v hv => by simp at hv⟩
  cases hy <;> simp only [lenA,reduceCtorEq] at hl
  ·simp [Builtin.firstCells]
  ·simp [Builtin.firstCells]
  ·simp [Builtin.firstCells,loadCells,loadCellsFrom]
 | false =>
  have hk0 : k ≠ 0 := fun e => by rw [beqn_iff.2 e] at h0; cases h0
  simp only [h0,cond_false] at hf
  split at hf
  ·rename_i b off len lb sz'
   cases hy with
   | sl _ _ _ _ _ r base size o cap hs q1 q2 q3 q4 =>
   split at hf
   ·rename_i ety m ro t hc
    cases hb : (Nat.beq sz sz' && (Nat.ble (off + k * sz) m && !(Nat.beq lb 0))) with
    | false => simp [hb] at hf
    | true =>
     simp only [hb,cond_true,Option.some.injEq] at hf
     simp only [Bool.and_eq_true,Bool.not_eq_true'] at hb
     have e1 := ble_iff.1 hb.2.1
     have e2 : lb ≠ 0 := fun e => by rw [beqn_iff.2 e] at hb; simp at hb
     have e3 := q3 e2
     obtain ⟨cs,fr,tt,h1,h2,h3,h4,h5⟩ := H.cells hs hc
     subst hf
     have hm := lg_le m
     have hex : ∀ i,i < k * sz → ∃ v,(cs.extract o (o + k * sz))[i]? = some v ∧ one v = true ∧ Rel σ (cget (lg (k * sz)) (crow (lg m) t off (k * sz)) i) v := fun i hi => by
      obtain ⟨v,g1,g2,g3⟩ := h4 (off + i) (by omega)
      refine ⟨v,?_,g2,?_⟩
      ·rw [Array.getElem?_extract,if_pos (by omega),← g1]; congr 1; omega
      ·rw [cget_crow (by omega) hi]; exact g3
     have hsz : (cs.extract o (o + k * sz)).size = k * sz := by simp; omega
     refine ⟨cs.extract o (o + k * sz),fun w1 hw1 => ?_,hsz,fun i v hv => ?_,fun i v hv => ?_⟩
     ·have h1' : w1.heap[r]? = some (.cells cs tt fr) := by rw [hw1]; exact h1
      simp only [Builtin.firstCells]
      exact load_cells h1' (by omega)
     ·have hi : i < k * sz := by rw [← hsz]; exact (Array.getElem?_eq_some_iff.1 hv).1
      obtain ⟨u,g1,g2,g3⟩ := hex i hi
      rw [hv] at g1; simp only [Option.some.injEq] at g1; rw [g1]; exact g2
     ·have hi : i < k * sz := by rw [← hsz]; exact (Array.getElem?_eq_some_iff.1 hv).1
      obtain ⟨u,g1,g2,g3⟩ := hex i hi
      rw [hv] at g1; simp only [Option.some.injEq] at g1; rw [g1]; exact g3
   ·cases hf
  ·rename_i m x
   cases hy with
   | str t _ _ hn hx =>
   cases hb : (Nat.beq sz 1 && Nat.ble k m) with
   | false => simp [hb] at hf
   | true =>
    simp only [hb,cond_true,Option.some.injEq] at hf
    simp only [Bool.and_eq_true] at hb
    have e1 := beqn_iff.1 hb.1
    have e2 := ble_iff.1 hb.2
    subst e1; subst hn; subst hx; subst hf
    have hd : ((t.extract 0 k).data.map fun b => Value.int .u8 b.toNat).size = k := by
     simp [ByteArray.extract,ByteArray.copySlice]
     show min k t.size = k
     omega
    have hget : ∀ i,i < k → ((t.extract 0 k).data.map fun b => Value.int .u8 b.toNat)[i]? = some (.int .u8 (Int.ofNat (sbyte t.size (val t.data.toList) i))) := fun i hi => by
     have hl : i < t.data.toList.length := by simp; show i < t.size; omega
     have hg := val_get hl
     have hlen : t.data.toList.length = t.size := by simp
     rw [hlen] at hg
     have hi' : i < t.data.size := by show i < t.size; omega
     have hek : (t.extract 0 k).data[i]? = some t.data[i] := by
      simp only [ByteArray.extract,ByteArray.copySlice]
      simp
      rw [Array.getElem?_extract,if_pos (by omega),Nat.zero_add]
      exact Array.getElem?_eq_getElem hi'
     simp only [Array.getElem?_map,hek,Option.map_some,← hg]
     simp
    refine ⟨(t.extract 0 k).data.map fun b => .int .u8 b.toNat,fun w1 hw1 => rfl,by rw [hd]; omega,fun i v hv => ?_,fun i v hv => ?_⟩
    ·have hi : i < k := by rw [← hd]; exact (Array.getElem?_eq_some_iff.1 hv).1
     rw [hget i hi] at hv; simp only [Option.some.injEq] at hv; rw [← hv]; rfl
    ·have hi : i < k := by rw [← hd]; exact (Array.getElem?_eq_some_iff.1 hv).1
     rw [hget i hi] at hv; simp only [Option.some.injEq] at hv; rw [← hv,Nat.mul_one,cget_strN hi,sbyte_take e2 hi]; exact .int _ _
  ·cases hf
end
end I
end Go.Proofs.YtojefiolcedigaaGreatDoor
namespace Go.Proofs.YtojefiolcedigaaGreatDoor
namespace I
open K (one aggB run_underlying' run_sizeOf' add_none run_v cell_cells)
set_option linter.unusedVariables false
def isI : TypeDesc → Bool
 | .int _ => true
 | _ => false
section
variable {P : Program} {σ : Sg} {h : AV} {nx : Nat} {w0 w : World} {B : Fr}
theorem run_append_in {t t2 e oty : TypeId} {d2 : TypeDesc} {inf : TypeInfo} {r o n cap m : Nat} {yv : Value} {new : Array Value} {w' : World} (hu : P.underlying t = some (.slice e)) (hu2 : P.underlying t2 = some d2) (hd : isI d2 = false) (hi : P.info? e = some inf)
  (hl : (Builtin.lenOf yv).run P w = .ok m w) (hf : (Builtin.firstCells inf.size m yv).run P w = .ok new w) (hle : n + m ≤ cap) (hs : (storeCells ⟨r,o + n * inf.size,none⟩ new.toList 0).run P w = .ok () w') :
  (Builtin.append_ #[t,t2] oty #[.slice (some ⟨r,o,none⟩) n cap,yv]).run P w = .ok (.slice (some ⟨r,o,none⟩) (n + m) cap) w' := by
 have hz : (match d2 with | .int _ => true | _ => false) = false := by cases d2 <;> first | rfl | simp [isI] at hd
 simp only [Builtin.append_,Sem.run_bind,run_underlying' hu,run_underlying' hu2,run_sizeOf' hi,Result.andThen_ok,Sem.run_pure,List.getElem?_toArray,List.getElem?_cons_zero,List.getElem?_cons_succ]
 cases d2 <;> first
  | (simp [isI] at hd; done)
  | (simp [hl,hf,hle,add_none,hs])
theorem run_append_nil0 {t t2 e oty : TypeId} {d2 : TypeDesc} {inf : TypeInfo} {yv : Value} {new : Array Value} (hu : P.underlying t = some (.slice e)) (hu2 : P.underlying t2 = some d2) (hd : isI d2 = false) (hi : P.info? e = some inf)
  (hl : (Builtin.lenOf yv).run P w = .ok 0 w) (hf : (Builtin.firstCells inf.size 0 yv).run P w = .ok new w) :
  (Builtin.append_ #[t,t2] oty #[.slice none 0 0,yv]).run P w = .ok (.slice none 0 0) w := by
 simp only [Builtin.append_,Sem.run_bind,run_underlying' hu,run_underlying' hu2,run_sizeOf' hi,Result.andThen_ok,Sem.run_pure,List.getElem?_toArray,List.getElem?_cons_zero,List.getElem?_cons_succ]
 cases d2 <;> first
  | (simp [isI] at hd; done)
  | (simp [hl,hf])
def drawnCap (w : World) (need old : Nat) (e : TypeId) : Nat := (Question.appendCap need old e).cut (w.tape w.drawn (.appendCap need old e))
theorem drawnCap_ge (w : World) (need old : Nat) (e : TypeId) : need ≤ drawnCap w need old e := Nat.le_add_right _ _
theorem run_append_out {t t2 e oty : TypeId} {d2 : TypeDesc} {inf : TypeInfo} {z : Value} {base : Option Addr} {n cap m : Nat} {yv : Value} {old new : Array Value} (hu : P.underlying t = some (.slice e)) (hu2 : P.underlying t2 = some d2) (hd : isI d2 = false) (hi : P.info? e = some inf) (hz : inf.zero = some z)
    (hl : (Builtin.lenOf yv).run P w = .ok m w) (hf : ∀ w1 : World,w1.heap = w.heap → (Builtin.firstCells inf.size m yv).run P w1 = .ok new w1) (ho : ∀ w1 : World,w1.heap = w.heap → (Builtin.firstCells inf.size n (.slice base n cap)).run P w1 = .ok old w1) (hgt : ¬ n + m ≤ cap)
    (h63 : n + m ≤ 9223372036854775807) (hfit : Builtin.nextslicecap (n + m) cap * inf.bytes ≤ 281474976710656) :
    (Builtin.append_ #[t,t2] oty #[.slice base n cap,yv]).run P w = .ok (.slice (some ⟨w.heap.size,0,none⟩) (n + m) (drawnCap w (n + m) cap e))
      ({ w with drawn := w.drawn + 1 }.alloc (.cells (old ++ new ++ Builtin.zeroCells z.cells (drawnCap w (n + m) cap e - (n + m))) e (0,0))) := by
  have hti : ∀ w : World,(typeInfo e).run P w = .ok inf w := fun w => by simp [typeInfo,program,Sem.run,hi]
  have hzv : ∀ w : World,(zeroValue e).run P w = .ok z w := fun w => run_zeroValue (by rw [hi]; exact hz)
  have har : ∀ (k : Nat) (w : World),(askRoom k).run P w = .ok () w := fun k w => by unfold askRoom; split <;> rfl
  have c1 : ¬ (((n + m : Nat) : Int) > IntKind.i64.max ∧ (false = true ∨ inf.bytes = 0)) := by
    rw [show IntKind.i64.max = 9223372036854775807 from rfl]; omega
  have c2 : ¬ (Builtin.nextslicecap (n + m) cap * inf.bytes > 2 ^ 48) := by omega
  simp only [Builtin.append_,Sem.run_bind,run_underlying' hu,run_underlying' hu2,run_sizeOf' hi,Result.andThen_ok,Sem.run_pure,List.getElem?_toArray,List.getElem?_cons_zero,List.getElem?_cons_succ]
  cases d2 <;> first
    | (simp [isI] at hd; done)
    | (simp only [Bool.false_eq_true,if_false,hl,Result.andThen_ok,hgt,hti,Sem.run_bind]
       have c1' : ¬ (((n + m : Nat) : Int) > IntKind.i64.max ∧ (False ∨ inf.bytes = 0)) := by simpa using c1
       simp only [c1',if_false,Sem.run_bind,Result.andThen_ok,hti]
       rw [if_neg c2]
       simp only [Sem.run_bind]
       simp only [choose,Sem.run,Question.forced,Bool.false_eq_true,if_false,Result.andThen_ok,hti,har]
       rw [ho { w with drawn := w.drawn + 1 } rfl]
       simp only [Result.andThen_ok,Bool.not_false,if_true]
       rw [hf { w with drawn := w.drawn + 1 } rfl]
       simp only [Result.andThen_ok,hzv,Sem.run_bind,newRow,newObj,Sem.run,Sem.run_pure]
       rfl)
end
end I
end Go.Proofs.YtojefiolcedigaaGreatDoor
namespace Go.Proofs.YtojefiolcedigaaGreatDoor
namespace I
open K (one aggB run_underlying' run_sizeOf' add_none run_v cell_cells)
set_option linter.unusedVariables false
def noRoom (ety off len m lb sz n : Nat) : Bool := Nat.beq (ety % 2) 1 && Nat.blt n (bif Nat.beq lb 0 then (len + m) * sz else off + (len + m) * sz)
def aappend (P : Program) (e t2 : TypeId) (h : AV) (nx : Nat) (x y : AV) : Option (AV × AV × Nat) :=
 match P.info? e,P.underlying t2,lenA y with
 | some inf,some d2,some m => bif isI d2 || (Nat.beq inf.size 0 || Nat.ble (2 ^ HD) nx) then none else
  match firstA h inf.size m y,rowA (zeroA P e) with
  | some u,some (zn,_) => bif Nat.beq zn inf.size then
   match x with
   | .nils => bif Nat.beq m 0 then some (.nils,h,nx) else
     bif Nat.ble (m * inf.bytes) 140737488355328 && Nat.ble m 9223372036854775807 then
      some (.sl nx 0 m m inf.size,cput HD h nx (.cells (2 * e) (m * inf.size) false u),nx + 1) else none
   | .sl b off len lb sz => bif Nat.beq m 0 then some (.sl b off len lb sz,h,nx) else match cget HD h b with
    | .cells ety n false t => bif Nat.beq sz inf.size && Nat.beq (ety / 2) e then
      bif Nat.ble (len + m) lb && !(Nat.beq lb 0) then
       bif Nat.ble (off + (len + m) * sz) n then
        some (.sl b off (len + m) lb sz,cput HD h b (.cells ety n false (cblit (lg n) t (off + len * sz) (m * sz) u)),nx) else none
      else bif noRoom ety off len m lb sz n then
       bif Nat.ble ((len + m) * inf.bytes) 140737488355328 && (Nat.ble (len + m) 9223372036854775807 && Nat.ble (off + len * sz) n) then
        some (.sl nx 0 (len + m) (len + m) sz,cput HD h nx (.cells (2 * e) ((len + m) * sz) false (catA (len * sz) (crow (lg n) t off (len * sz)) (m * sz) u)),nx + 1) else none
      else
       bif Nat.ble ((len + m) * inf.bytes) 140737488355328 && (Nat.ble (len + m) 9223372036854775807 && (Nat.ble (off + len * sz) n && (Nat.beq off 0 && !(Nat.beq lb 0)))) then
        some (.sl nx 0 (len + m) (len + m) sz,cput HD (cput HD h b .dead) nx (.cells (2 * e) ((len + m) * sz) false (catA (len * sz) (crow (lg n) t off (len * sz)) (m * sz) u)),nx + 1) else none
     else none
    | _ => none
   | _ => none
   else none
  | _,_ => none
 | _,_,_ => none
section
variable {P : Program} {σ : Sg} {h : AV} {nx : Nat} {w0 w : World} {B : Fr}
def SubX (nx : Nat) (σ σ' : Sg) : Prop := Sub σ σ' ∧ ∀ b,b < nx → σ' b = σ b
theorem SubX.refl (nx : Nat) (σ : Sg) : SubX nx σ σ := ⟨fun _ _ h => h,fun _ _ => rfl⟩
theorem SubX.trans {nx nx' : Nat} {σ σ' σ'' : Sg} (h : SubX nx σ σ') (h' : SubX nx' σ' σ'') (hle : nx ≤ nx') : SubX nx σ σ'' :=
 ⟨fun b p hb => h'.1 b p (h.1 b p hb),fun b hb => (h'.2 b (by omega)).trans (h.2 b hb)⟩
theorem HS.subX (H : HS σ h nx w0 B w) (p : Pl) : SubX nx σ (ext σ nx p) := ⟨H.sub_ext p,fun b hb => by unfold ext; rw [if_neg (by omega)]⟩
def Dk (nx : Nat) (h h' : AV) : Prop := ∀ b,b < nx → live (cget HD h' b) = true → live (cget HD h b) = true
theorem Dk.refl (nx : Nat) (h : AV) : Dk nx h h := fun _ _ hl => hl
theorem Dk.trans {nx nx' : Nat} {h h1 h2 : AV} (a : Dk nx h h1) (b : Dk nx' h1 h2) (hle : nx ≤ nx') : Dk nx h h2 := fun c hc hl => a c hc (b c (by omega) hl)
theorem HS.dkPut (H : HS σ h nx w0 B w) {b : Nat} {x : AV} {p : Pl} (hb : σ b = some p) (hl : live (cget HD h b) = true) : Dk nx h (cput HD h b x) := fun c hc hlc => by
 have := H.nxle
 rw [cget_cput HD h b c x (H.lt hb) (by omega)] at hlc
 by_cases hcb : c = b
 ·rw [hcb]; exact hl
 ·rw [if_neg hcb] at hlc; exact hlc
theorem dkNew {x : AV} (hnx : nx < 2 ^ HD) : Dk nx h (cput HD h nx x) := fun c hc hlc => by
 rw [cget_cput HD h nx c x hnx (by omega),if_neg (by omega)] at hlc; exact hlc
theorem HS.dkKill (H : HS σ h nx w0 B w) {b : Nat} {p : Pl} (hb : σ b = some p) : Dk nx h (cput HD h b .dead) := fun c hc hlc => by
 have := H.nxle
 rw [cget_cput HD h b c .dead (H.lt hb) (by omega)] at hlc
 by_cases hcb : c = b
 ·rw [if_pos hcb] at hlc; simp [live] at hlc
 ·rw [if_neg hcb] at hlc; exact hlc
def EffOk (P : Program) (σ : Sg) (h : AV) (nx : Nat) (w0 : World) (B : Fr) (w : World) (s : Sem Value) (a h' : AV) (nx' : Nat) : Prop :=
 ∃ σ' v w',SubX nx σ σ' ∧ Dk nx h h' ∧ nx ≤ nx' ∧ s.run P w = .ok v w' ∧ Rel σ' a v ∧ HS σ' h' nx' w0 B w'
theorem Sub.refl (σ : Sg) : Sub σ σ := fun _ _ h => h
theorem Sub.trans {σ σ' σ'' : Sg} (h : Sub σ σ') (h' : Sub σ' σ'') : Sub σ σ'' := fun b p hb => h' b p (h b p hb)
theorem RowRel.cat {n m : Nat} {s u : AV} {cs ds rest : Array Value} (h1 : RowRel σ n s cs) (h2 : RowRel σ m u ds) : ∀ i,i < n + m → ∃ v,(cs ++ ds ++ rest)[i]? = some v ∧ one v = true ∧ Rel σ (cget (lg (n + m)) (catA n s m u) i) v := by
 intro i hi
 rw [cget_catA hi]
 by_cases hin : i < n
 ·rw [if_pos hin]
  have hlt : i < cs.size := by rw [h1.1]; exact hin
  have hg : cs[i]? = some cs[i] := Array.getElem?_eq_getElem hlt
  refine ⟨cs[i],?_,h1.2.1 i _ hg,h1.2.2 i _ hg⟩
  rw [Array.append_assoc,Array.getElem?_append_left hlt]; exact hg
 ·rw [if_neg hin]
  have hlt : i - n < ds.size := by rw [h2.1]; omega
  have hg : ds[i - n]? = some ds[i - n] := Array.getElem?_eq_getElem hlt
  refine ⟨ds[i - n],?_,h2.2.1 _ _ hg,h2.2.2 _ _ hg⟩
  rw [Array.append_assoc,Array.getElem?_append_right (by rw [h1.1]; omega),h1.1,Array.getElem?_append_left hlt]; exact hg
theorem zeroCells_size (z : Array Value) (n : Nat) : (Builtin.zeroCells z n).size = n * z.size := by simp [Builtin.zeroCells]
set_option maxHeartbeats 1000000 in
theorem aappend_ok {t t2 e oty : TypeId} {x y a h' : AV} {nx' : Nat} {xv yv : Value} (H : HS σ h nx w0 B w) (hu : P.underlying t = some (.slice e)) (hx : Rel σ x xv) (hy : Rel σ y yv) (ha : aappend P e t2 h nx x y = some (a,h',nx')) :
  EffOk P σ h nx w0 B w (Builtin.append_ #[t,t2] oty #[xv,yv]) a h' nx' := by
 unfold aappend at ha
 split at ha
 ·rename_i inf d2 m hinf hu2 hlen
  cases hc0 : (isI d2 || (Nat.beq inf.size 0 || Nat.ble (2 ^ HD) nx)) with
  | true => simp [hc0] at ha
  | false =>
   simp only [hc0,cond_false] at ha
   simp only [Bool.or_eq_false_iff] at hc0
   obtain ⟨hd2,hsz0',hnx'⟩ := hc0
   have hsz0 : inf.size ≠ 0 := fun e => by rw [beqn_iff.2 e] at hsz0'; cases hsz0'
   have hnx : nx < 2 ^ HD := by
    apply Nat.lt_of_not_le
    intro hh; rw [ble_iff.2 hh] at hnx'; cases hnx'
   split at ha
   ·rename_i u zn zs hfirst hzero
    cases hzn : Nat.beq zn inf.size with
    | false => simp [hzn] at ha
    | true =>
    simp only [hzn,cond_true] at ha
    have hzn' := beqn_iff.1 hzn
    have hbad : zeroA P e ≠ .bad := fun hb => by rw [hb] at hzero; simp [rowA,scalarA] at hzero
    obtain ⟨z,hzv,hzr⟩ := zeroA_ok (P := P) (t := e) rfl hbad σ
    have hzrow := rowA_ok hzr hzero
    have hz : inf.zero = some z := by rw [hinf] at hzv; exact hzv
    have hl := lenA_ok (P := P) (w := w) hy hlen
    obtain ⟨new,hf,hnew⟩ := firstA_ok (P := P) H hy hlen (Nat.le_refl m) hfirst
    split at ha
    ·
     cases hx
     cases hm : Nat.beq m 0 with
     | true =>
      have := beqn_iff.1 hm
      subst this
      simp only [hm,cond_true,Option.some.injEq,Prod.mk.injEq] at ha
      obtain ⟨rfl,rfl,rfl⟩ := ha
      exact ⟨σ,_,w,SubX.refl nx σ,Dk.refl nx h,Nat.le_refl _,run_append_nil0 hu hu2 hd2 hinf hl (hf w rfl),.nils,H⟩
     | false =>
      have hm0 : m ≠ 0 := fun e => by rw [beqn_iff.2 e] at hm; cases hm
      simp only [hm,cond_false] at ha
      cases hb : (Nat.ble (m * inf.bytes) 140737488355328 && Nat.ble m 9223372036854775807) with
      | false => simp [hb] at ha
      | true =>
       simp only [hb,cond_true,Option.some.injEq,Prod.mk.injEq] at ha
       obtain ⟨rfl,rfl,rfl⟩ := ha
       simp only [Bool.and_eq_true] at hb
       have e1 := ble_iff.1 hb.1
       have e2 := ble_iff.1 hb.2
       have hrun := run_append_out (P := P) (w := w) (oty := oty) (base := none) (n := 0) (cap := 0) (old := #[]) hu hu2 hd2 hinf hz hl hf (fun w1 _ => rfl) (by omega) (by omega) (growslice_fits (by omega) (by rw [Nat.zero_add]; exact e1))
       have hge := drawnCap_ge w (0 + m) 0 e
       generalize drawnCap w (0 + m) 0 e = cp at hrun hge
       rw [Nat.zero_add] at hrun hge
       have hcs : (#[] ++ new ++ Builtin.zeroCells z.cells (cp - m)).size = cp * inf.size := by
        simp only [Array.size_append,zeroCells_size,hzrow.1,hzn',hnew.1]
        simp only [List.size_toArray,List.length_nil,Nat.zero_add]
        rw [← Nat.add_mul]; congr 1; omega
       refine ⟨ext σ nx (w.heap.size,0,(#[] ++ new ++ Builtin.zeroCells z.cells (cp - m)).size),_,_,H.subX _,dkNew hnx,Nat.le_succ _,hrun,?_,?_⟩
       ·refine .sl _ _ _ _ _ w.heap.size 0 (#[] ++ new ++ Builtin.zeroCells z.cells (cp - m)).size 0 _ (by simp [ext]) (Nat.le_refl _) hge (fun _ => rfl) ?_
        rw [hcs,Nat.zero_add]; exact Nat.le_refl _
       ·refine H.drew.row hnx (by rw [even_half]; rfl) (fun h => by omega) rfl rfl rfl ?_ (calm0 _) (fun i hi => ?_)
        ·rw [hcs]
         exact Nat.mul_le_mul_right _ hge
        ·obtain ⟨v,g1,g2,g3⟩ := hnew.all i hi
         refine ⟨v,?_,g2,g3⟩
         rw [Array.empty_append,Array.getElem?_append_left (by rw [hnew.1]; exact hi)]; exact g1
    ·rename_i b off len lb sz
     cases hx with
     | sl _ _ _ _ _ r base size o cap hs q1 q2 q3 q4 =>
     cases hm : Nat.beq m 0 with
     | true =>
      have := beqn_iff.1 hm
      subst this
      simp only [hm,cond_true,Option.some.injEq,Prod.mk.injEq] at ha
      obtain ⟨rfl,rfl,rfl⟩ := ha
      have hn0 : new = #[] := Array.eq_empty_of_size_eq_zero (by rw [hnew.1,Nat.zero_mul])
      subst hn0
      exact ⟨σ,_,w,SubX.refl nx σ,Dk.refl nx h,Nat.le_refl _,run_append_in hu hu2 hd2 hinf hl (hf w rfl) (by omega) rfl,.sl _ _ _ _ _ r base size o cap hs q1 q2 q3 q4,H⟩
     | false =>
     simp only [hm,cond_false] at ha
     split at ha
     ·rename_i ety n t hc
      cases hb0 : (Nat.beq sz inf.size && Nat.beq (ety / 2) e) with
      | false => simp [hb0] at ha
      | true =>
       simp only [hb0,cond_true] at ha
       simp only [Bool.and_eq_true] at hb0
       have e0 := beqn_iff.1 hb0.1
       have e0' := beqn_iff.1 hb0.2
       subst e0; subst e0'
       cases hb1 : (Nat.ble (len + m) lb && !(Nat.beq lb 0)) with
       | true =>
        simp only [hb1,cond_true] at ha
        simp only [Bool.and_eq_true,Bool.not_eq_true'] at hb1
        have e1 := ble_iff.1 hb1.1
        have e2 : lb ≠ 0 := fun e => by rw [beqn_iff.2 e] at hb1; simp at hb1
        have e3 := q3 e2
        cases hb2 : Nat.ble (off + (len + m) * inf.size) n with
        | false => simp [hb2] at ha
        | true =>
         simp only [hb2,cond_true,Option.some.injEq,Prod.mk.injEq] at ha
         obtain ⟨rfl,rfl,rfl⟩ := ha
         have e4 := ble_iff.1 hb2
         have e5 : off + len * inf.size + m * inf.size ≤ n := by rw [Nat.add_mul] at e4; omega
         obtain ⟨w',g1,g2⟩ := H.write (P := P) hs hc hnew e5
         have g1' : (storeCells ⟨r,o + len * inf.size,none⟩ new.toList 0).run P w = .ok () w' := by
          rw [e3,Nat.add_assoc]; exact g1
         refine ⟨σ,_,w',SubX.refl nx σ,H.dkPut hs (by rw [hc]; rfl),Nat.le_refl _,run_append_in hu hu2 hd2 hinf hl (hf w rfl) (by omega) g1',.sl _ _ _ _ _ r base size o cap hs e1 q2 q3 q4,g2⟩
       | false =>
        simp only [hb1,cond_false] at ha
        cases hnr : noRoom ety off len m lb inf.size n with
        | true =>
         simp only [hnr,cond_true] at ha
         cases hb2 : (Nat.ble ((len + m) * inf.bytes) 140737488355328 && (Nat.ble (len + m) 9223372036854775807 && Nat.ble (off + len * inf.size) n)) with
         | false => simp [hb2] at ha
         | true =>
         simp only [hb2,cond_true,Option.some.injEq,Prod.mk.injEq] at ha
         obtain ⟨rfl,rfl,rfl⟩ := ha
         simp only [Bool.and_eq_true] at hb2
         have e1 := ble_iff.1 hb2.1
         have e2 := ble_iff.1 hb2.2.1
         have e4 := ble_iff.1 hb2.2.2
         obtain ⟨cs,fr,h1,h2,h3,h4,h5⟩ := H.cellsT hs hc (.inl rfl)
         obtain ⟨h6,h7⟩ := h5 rfl
         have hn := lg_le n
         have hmul : len * inf.size ≤ cap * inf.size := Nat.mul_le_mul_right _ (by omega)
         have hroom : ¬ len + m ≤ cap := fun hle => by
          have hx : (len + m) * inf.size ≤ cap * inf.size := Nat.mul_le_mul_right _ hle
          unfold noRoom at hnr
          simp only [Bool.and_eq_true] at hnr
          have k1 := h3.2.2 (beqn_iff.1 hnr.1)
          have k2 := blt_iff.1 hnr.2
          cases hl0 : Nat.beq lb 0 with
          | true => simp only [hl0,cond_true] at k2; omega
          | false =>
           simp only [hl0,cond_false] at k2
           have k3 := q3 (fun e => by rw [beqn_iff.2 e] at hl0; cases hl0)
           omega
         -- the old cells
         have hold : RowRel σ (len * inf.size) (crow (lg n) t off (len * inf.size)) (cs.extract o (o + len * inf.size)) := by
          have hsz : (cs.extract o (o + len * inf.size)).size = len * inf.size := by simp; omega
          by_cases hl0 : lb = 0
          ·have : len = 0 := by omega
           subst this
           refine ⟨by simpa using hsz,fun i v hv => ?_,fun i v hv => ?_⟩ <;>
           ·have := (Array.getElem?_eq_some_iff.1 hv).1
            rw [hsz] at this; omega
          ·have e3 := q3 hl0
           have key : ∀ i v,(cs.extract o (o + len * inf.size))[i]? = some v → one v = true ∧ Rel σ (cget (lg (len * inf.size)) (crow (lg n) t off (len * inf.size)) i) v := fun i v hv => by
            have hi : i < len * inf.size := by rw [← hsz]; exact (Array.getElem?_eq_some_iff.1 hv).1
            obtain ⟨u',g1,g2,g3⟩ := h4 (off + i) (by omega)
            rw [Array.getElem?_extract,if_pos (by omega),show o + i = base + (off + i) by omega,g1] at hv
            simp only [Option.some.injEq] at hv
            subst hv
            rw [cget_crow (by omega) hi]
            exact ⟨g2,g3⟩
           exact ⟨hsz,fun i v hv => (key i v hv).1,fun i v hv => (key i v hv).2⟩
         have hfold : ∀ w1 : World,w1.heap = w.heap → (Builtin.firstCells inf.size len (.slice (some ⟨r,o,none⟩) len cap)).run P w1 = .ok (cs.extract o (o + len * inf.size)) w1 := fun w1 hw1 => by
          simp only [Builtin.firstCells]
          exact load_cells (by rw [hw1]; exact h1) (by omega)
         have houtside := hroom
         have hrun := run_append_out (P := P) (w := w) (oty := oty) (base := some ⟨r,o,none⟩) (n := len) (cap := cap) hu hu2 hd2 hinf hz hl hf hfold hroom e2 (growslice_fits (by omega) e1)
         have hge := drawnCap_ge w (len + m) cap (ety / 2)
         let cs' := cs.extract o (o + len * inf.size) ++ new ++ Builtin.zeroCells z.cells (drawnCap w (len + m) cap (ety / 2) - (len + m))
         have hcs : cs'.size = drawnCap w (len + m) cap (ety / 2) * inf.size := by
          simp only [cs',Array.size_append,zeroCells_size,hzrow.1,hzn',hnew.1,hold.1]
          rw [← Nat.add_mul,← Nat.add_mul]; congr 1; omega
         refine ⟨ext σ nx (w.heap.size,0,cs'.size),_,_,H.subX _,dkNew hnx,Nat.le_succ _,hrun,.sl _ _ _ _ _ w.heap.size 0 cs'.size 0 _ (by simp [ext]) (Nat.le_refl _) hge (fun _ => rfl) (by rw [hcs]; omega),?_⟩
         refine H.drew.row hnx (by rw [even_half]; rfl) (fun h => by omega) rfl rfl rfl ?_ (calm0 _) (fun i hi => ?_)
         ·show (len + m) * inf.size ≤ cs'.size
          rw [hcs]
          exact Nat.mul_le_mul_right _ hge
         ·have hadd : len * inf.size + m * inf.size = (len + m) * inf.size := by rw [Nat.add_mul]
          rw [← hadd] at hi ⊢
          exact hold.cat hnew i hi
        | false =>
        simp only [hnr,cond_false] at ha
        cases hb2 : (Nat.ble ((len + m) * inf.bytes) 140737488355328 && (Nat.ble (len + m) 9223372036854775807 && (Nat.ble (off + len * inf.size) n && (Nat.beq off 0 && !(Nat.beq lb 0))))) with
        | false => simp [hb2] at ha
        | true =>
         simp only [hb2,cond_true,Option.some.injEq,Prod.mk.injEq] at ha
         obtain ⟨rfl,rfl,rfl⟩ := ha
         simp only [Bool.and_eq_true,Bool.not_eq_true'] at hb2
         have e1 := ble_iff.1 hb2.1
         have e2 := ble_iff.1 hb2.2.1
         have e4 := ble_iff.1 hb2.2.2.1
         have e6 := beqn_iff.1 hb2.2.2.2.1
         have e7 : lb ≠ 0 := fun e => by rw [beqn_iff.2 e] at hb2; simp at hb2
         have e8 := q3 e7
         obtain ⟨cs,fr,h1,h2,h3,h4,h5⟩ := H.cellsT hs hc (.inl rfl)
         obtain ⟨h6,h7⟩ := h5 rfl
         have hn := lg_le n
         have hmul : len * inf.size ≤ cap * inf.size := Nat.mul_le_mul_right _ (by omega)
         -- the old cells
         have hold : RowRel σ (len * inf.size) (crow (lg n) t off (len * inf.size)) (cs.extract o (o + len * inf.size)) := by
          have hsz : (cs.extract o (o + len * inf.size)).size = len * inf.size := by simp; omega
          by_cases hl0 : lb = 0
          ·have : len = 0 := by omega
           subst this
           refine ⟨by simpa using hsz,fun i v hv => ?_,fun i v hv => ?_⟩ <;>
           ·have := (Array.getElem?_eq_some_iff.1 hv).1
            rw [hsz] at this; omega
          ·have e3 := q3 hl0
           have key : ∀ i v,(cs.extract o (o + len * inf.size))[i]? = some v → one v = true ∧ Rel σ (cget (lg (len * inf.size)) (crow (lg n) t off (len * inf.size)) i) v := fun i v hv => by
            have hi : i < len * inf.size := by rw [← hsz]; exact (Array.getElem?_eq_some_iff.1 hv).1
            obtain ⟨u',g1,g2,g3⟩ := h4 (off + i) (by omega)
            rw [Array.getElem?_extract,if_pos (by omega),show o + i = base + (off + i) by omega,g1] at hv
            simp only [Option.some.injEq] at hv
            subst hv
            rw [cget_crow (by omega) hi]
            exact ⟨g2,g3⟩
           exact ⟨hsz,fun i v hv => (key i v hv).1,fun i v hv => (key i v hv).2⟩
         have hfold : ∀ w1 : World,w1.heap = w.heap → (Builtin.firstCells inf.size len (.slice (some ⟨r,o,none⟩) len cap)).run P w1 = .ok (cs.extract o (o + len * inf.size)) w1 := fun w1 hw1 => by
          simp only [Builtin.firstCells]
          exact load_cells (by rw [hw1]; exact h1) (by omega)
         by_cases hroom : len + m ≤ cap
         ·
          have hmul2 : (len + m) * inf.size ≤ cap * inf.size := Nat.mul_le_mul_right _ hroom
          have hadd : len * inf.size + m * inf.size = (len + m) * inf.size := by rw [Nat.add_mul]
          have hnl : new.toList.length = m * inf.size := by simpa using hnew.1
          obtain ⟨w',hr,hw,g1,g2,g3⟩ := run_storeCells (P := P) (off := o + len * inf.size) new.toList 0 cs w h1 (by rw [h2]; exact h6) (by rw [hnl]; omega) (fun v hm => by
           obtain ⟨i,hi⟩ := List.mem_iff_getElem?.1 hm
           exact hnew.2.1 i v (by simpa using hi))
          have hrun := run_append_in (P := P) (w := w) (oty := oty) (o := o) hu hu2 hd2 hinf hl (hf w rfl) hroom hr
          obtain ⟨s1,s2⟩ := spl_get new.toList cs (o + len * inf.size + 0) (by rw [hnl]; omega)
          have hb' : w'.heap[r]? = some (.cells (K.spl cs (o + len * inf.size + 0) new.toList) (ety / 2) fr) := by rw [hw]; simp [lt_of_get h1]
          have hsub := H.sub_ext (r,o,size)
          refine ⟨ext σ nx (r,o,size),_,w',H.subX _,(H.dkKill hs).trans (dkNew hnx) (Nat.le_refl _),Nat.le_succ _,hrun,.sl _ _ _ _ _ r o size o cap (by simp [ext]) (Nat.le_refl _) hroom (fun _ => rfl) q4,?_⟩
          refine H.rename hnx (q := (r,o,size)) hs (by rw [hc]; rfl) h7 rfl hw g1 g2 g3 ⟨r,o,size,_,fr,ety / 2,by simp [ext],hb',by rw [s1]; exact h2,⟨by omega,by omega,fun h => by omega⟩,fun i hi => ?_,fun _ => ⟨h6,h7⟩,fun _ => (even_half _).symm⟩
          rw [← hadd] at hi ⊢
          rw [cget_catA hi,s2 (o + i),hnl]
          by_cases hin : i < len * inf.size
          ·rw [if_pos hin,if_neg (by omega)]
           obtain ⟨v,f1,f2,f3⟩ := hold.all i hin
           refine ⟨v,?_,f2,f3.mono hsub⟩
           rw [Array.getElem?_extract] at f1
           split at f1
           ·exact f1
           ·cases f1
          ·rw [if_neg hin,if_pos (by omega)]
           obtain ⟨v,f1,f2,f3⟩ := hnew.all (i - len * inf.size) (by omega)
           refine ⟨v,?_,f2,f3.mono hsub⟩
           rw [show o + i - (o + len * inf.size + 0) = i - len * inf.size by omega]
           simpa using f1
         ·
          have hrun := run_append_out (P := P) (w := w) (oty := oty) (base := some ⟨r,o,none⟩) (n := len) (cap := cap) hu hu2 hd2 hinf hz hl hf hfold hroom e2 (growslice_fits (by omega) e1)
          have hge := drawnCap_ge w (len + m) cap (ety / 2)
          let cs' := cs.extract o (o + len * inf.size) ++ new ++ Builtin.zeroCells z.cells (drawnCap w (len + m) cap (ety / 2) - (len + m))
          have hcs : cs'.size = drawnCap w (len + m) cap (ety / 2) * inf.size := by
           simp only [cs',Array.size_append,zeroCells_size,hzrow.1,hzn',hnew.1,hold.1]
           rw [← Nat.add_mul,← Nat.add_mul]; congr 1; omega
          have HK := H.kill (H.lt hs)
          refine ⟨ext σ nx (w.heap.size,0,cs'.size),_,_,H.subX _,(H.dkKill hs).trans (dkNew hnx) (Nat.le_refl _),Nat.le_succ _,hrun,.sl _ _ _ _ _ w.heap.size 0 cs'.size 0 _ (by simp [ext]) (Nat.le_refl _) hge (fun _ => rfl) (by rw [hcs]; omega),?_⟩
          refine HK.drew.row hnx (by rw [even_half]; rfl) (fun h => by omega) rfl rfl rfl ?_ (calm0 _) (fun i hi => ?_)
          ·show (len + m) * inf.size ≤ cs'.size
           rw [hcs]
           exact Nat.mul_le_mul_right _ hge
          ·have hadd : len * inf.size + m * inf.size = (len + m) * inf.size := by rw [Nat.add_mul]
           rw [← hadd] at hi ⊢
           exact hold.cat hnew i hi
     ·cases ha
    ·cases ha
   ·cases ha
 ·cases ha
end
end I
end Go.Proofs.YtojefiolcedigaaGreatDoor
namespace Go.Proofs.YtojefiolcedigaaGreatDoor
namespace I
open K (one aggB run_underlying' run_sizeOf' add_none run_v cell_cells)
set_option linter.unusedVariables false
def acopy (P : Program) (e : TypeId) (h : AV) (x y : AV) : Option (AV × AV) :=
 match P.info? e,lenA y with
 | some inf,some ny => match x with
  | .nils => match firstA h inf.size 0 y with
   | some _ => some (.int .i64 0,h)
   | none => none
  | .sl b off len lb sz =>
   let k := bif Nat.ble ny len then ny else len
   match firstA h inf.size k y,cget HD h b with
   | some u,.cells ety n false t => bif Nat.beq sz inf.size && (Nat.ble (off + k * sz) n && !(Nat.beq lb 0)) then
     some (.int .i64 (.ofNat k),cput HD h b (.cells ety n false (cblit (lg n) t off (k * sz) u))) else none
   | _,_ => none
  | _ => none
 | _,_ => none
def amapUpd (P : Program) (h : AV) (nx : Nat) (t : TypeId) (m k x : AV) : Option (AV × AV × Nat) :=
 match P.underlying t,m with
 | some (.map kt _),.map b => match P.underlying kt,cget HD h b with
  | some kd,.mp l => bif fitKey kd k then
    match findI k l 0 with
    | some (some (i,_)) => some (.undef,cput HD h b (.mp (setI k x i l)),nx)
    | some none => some (.undef,cput HD h b (.mp (pushI k x l)),nx)
    | none => none
   else none
  | _,_ => none
 | _,_ => none
def cntF (c : Nat) : Nat → Nat → Nat → Nat
 | 0,_,a => a
 | n + 1,x,a => cntF c n (x / 256) (bif Nat.beq (x % 256) c then a + 1 else a)
def acountS (h : AV) (nx : Nat) (x y : AV) : Option (AV × AV × Nat) :=
 match x,y with
 | .str n s,.int .u8 (.ofNat c) => bif Nat.blt c 256 then some (.int .i64 (.ofNat (cntF c n s 0)),h,nx) else none
 | _,_ => none
def acloneM (h : AV) (nx : Nat) (x : AV) : Option (AV × AV × Nat) :=
 match x with
 | .ifc t (.map b) => match cget HD h b with
  | .mp l => bif Nat.blt nx (2 ^ HD) then some (.ifc t (.map nx),cput HD h nx (.mp l),nx + 1) else none
  | _ => none
 | _ => none
def aeff (P : Program) (ρ : Operand → AV) (h : AV) (nx : Nat) (o : Oper) : Option (AV × AV × Nat) :=
 match o.op with
 | .store ty x y => match ρ x,rowA (ρ y),P.info? ty with
  | .ptr b off,some (m,s),some inf => match cget HD h b with
   | .cells ety n false t => bif Nat.beq m inf.size && Nat.ble (off + m) n then some (.undef,cput HD h b (.cells ety n false (cblit (lg n) t off m s)),nx) else none
   | _ => none
  | _,_,_ => none
 | .call ⟨.builtin .append,⟨[x,y]⟩,⟨[t,t2]⟩⟩ => match P.underlying t with
  | some (.slice e) => aappend P e t2 h nx (ρ x) (ρ y)
  | _ => none
 | .call ⟨.builtin .copy,⟨[x,y]⟩,⟨t :: tys⟩⟩ => match P.underlying t with
  | some (.slice e) => match acopy P e h (ρ x) (ρ y) with
   | some r => some (r.1,r.2,nx)
   | none => none
  | _ => none
 | .call ⟨.builtin .unsafeString,⟨[x,y]⟩,⟨[pt,it]⟩⟩ => match ρ x,ρ y with
  | .nilp,.int .i64 (.ofNat 0) => some (.str 0 0,h,nx)
  | .ptr b off,.int .i64 (.ofNat 0) => some (.str 0 0,h,nx)
  | .ptr b off,.int .i64 (.ofNat k) => match cget HD h b,P.underlying pt with
   | .cells ety n false t,some (.pointer e) => bif Nat.beq (ety / 2) e && (Nat.beq (P.cellsOf e) 1 && (Nat.ble (off + k) n && Nat.ble k 9223372036854775807)) then
     match bytesOf (lg n) t k off 0 with
     | some x => some (.str k x,cput HD h b (.cells ety n true t),nx)
     | none => none
    else none
   | _,_ => none
  | _,_ => none
 | .call ⟨.value (.func f),⟨[x]⟩,_⟩ => match P.funcs[f]? with
  | some fn => bif fn.body.isNone && (fn.name == "internal/abi.NoEscape" && fn.origin == "") then some (ρ x,h,nx) else
    bif fn.body.isNone && (fn.name == "maps.clone" && fn.origin == "") then acloneM h nx (ρ x) else none
  | none => none
 | .call ⟨.value (.func f),⟨[x,y]⟩,_⟩ => match P.funcs[f]? with
  | some fn => bif fn.body.isNone && (fn.name == "internal/bytealg.CountString" && fn.origin == "") then acountS h nx (ρ x) (ρ y) else none
  | none => none
 | .mapUpdate t m k x => amapUpd P h nx t (ρ m) (ρ k) (ρ x)
 | .insert t m k x => amapUpd P h nx t (ρ m) (ρ k) (ρ x)
 | .call ⟨.builtin .clear,⟨[x]⟩,⟨[t]⟩⟩ => match P.underlying t,ρ x with
  | some _,.map b => match cget HD h b with
   | .mp _ => some (.undef,cput HD h b (.mp .lnil),nx)
   | _ => none
  | some _,.nilm => some (.undef,h,nx)
  | _,_ => none
 | .call ⟨.builtin .delete,⟨[x,k]⟩,⟨t :: tys⟩⟩ => match P.underlying t,ρ x with
  | some (.map kt _),.map b => match P.underlying kt,cget HD h b with
   | some kd,.mp l => bif fitKey kd (ρ k) then
     match findI (ρ k) l 0 with
     | some (some (i,_)) => some (.undef,cput HD h b (.mp (dropI i l)),nx)
     | some none => some (.undef,h,nx)
     | none => none
    else none
   | _,_ => none
  | _,_ => none
 | _ => none
section
variable {P : Program} {σ : Sg} {h : AV} {nx : Nat} {w0 w : World} {B : Fr}
theorem next_noEscape : (Extern.allNextRows.lookup "internal/abi.NoEscape").isNone = true := by kernel_rfl
theorem next_empty : (Extern.allNextRows.lookup "").isNone = true := by kernel_rfl
theorem generic_noEscape : (Extern.allGenericRows.lookup "internal/abi.NoEscape").isNone = true := by kernel_rfl
theorem typed_noEscape : (Extern.allTypedRows.lookup "internal/abi.NoEscape").isNone = true := by kernel_rfl
theorem row_noEscape : Extern.allRows.lookup "internal/abi.NoEscape" = some Extern.AbiNoEscape.same := by kernel_rfl
theorem run_noEscape {f : Nat} {fn : Func} {x : Value} (hf : P.funcs[f]? = some fn) (hb : fn.body.isNone = true) (hn : fn.name = "internal/abi.NoEscape") (ho : fn.origin = "") : (callFunc f #[x]).run P w = .ok (.value x) w := by
 have e1 : Extern.allNextRows.lookup "internal/abi.NoEscape" = none := Option.isNone_iff_eq_none.1 next_noEscape
 have e2 : Extern.allNextRows.lookup "" = none := Option.isNone_iff_eq_none.1 next_empty
 have e3 : Extern.allGenericRows.lookup "internal/abi.NoEscape" = none := Option.isNone_iff_eq_none.1 generic_noEscape
 have e4 : Extern.allTypedRows.lookup "internal/abi.NoEscape" = none := Option.isNone_iff_eq_none.1 typed_noEscape
 have h1 : Extern.findNext fn = none := by
  unfold Extern.findNext
  simp only [hn,ho,e1,e2,Option.map_none]; rfl
 have h2 : Extern.find fn = some Extern.AbiNoEscape.same := by
  unfold Extern.find
  simp only [hn,ho,e3,e4,row_noEscape,Option.map_none]; rfl
 have h3 : (fn.name == "runtime.NumGoroutine") = false := by rw [hn]; decide
 unfold callFunc
 simp only [Sem.run_bind,program,Sem.run,Result.andThen_ok,hf,h3,hb,Bool.false_eq_true,if_false,if_true,mark,h1,h2]
 rfl
theorem run_copy {t e oty : TypeId} {tys : List TypeId} {inf : TypeInfo} {r o dl cap m : Nat} {yv : Value} {new : Array Value} {w' : World} (hu : P.underlying t = some (.slice e)) (hi : P.info? e = some inf)
  (hl : (Builtin.lenOf yv).run P w = .ok m w) (hf : (Builtin.firstCells inf.size (Nat.min m dl) yv).run P w = .ok new w) (hs : (storeCells ⟨r,o,none⟩ new.toList 0).run P w = .ok () w') :
  (Builtin.copy_ ⟨t :: tys⟩ oty #[.slice (some ⟨r,o,none⟩) dl cap,yv]).run P w = .ok (.int .i64 (Nat.min m dl : Nat)) w' := by
 simp only [Builtin.copy_,Sem.run_bind,run_underlying' hu,run_sizeOf' hi,Result.andThen_ok,Sem.run_pure,List.getElem?_toArray,List.getElem?_cons_zero,List.getElem?_cons_succ,hl,hf,hs,goInt]
theorem run_copy_nil {t e oty : TypeId} {tys : List TypeId} {inf : TypeInfo} {m : Nat} {yv : Value} {new : Array Value} (hu : P.underlying t = some (.slice e)) (hi : P.info? e = some inf)
  (hl : (Builtin.lenOf yv).run P w = .ok m w) (hf : (Builtin.firstCells inf.size 0 yv).run P w = .ok new w) :
  (Builtin.copy_ ⟨t :: tys⟩ oty #[.slice none 0 0,yv]).run P w = .ok (.int .i64 0) w := by
 have h0 : Nat.min m 0 = 0 := Nat.min_eq_right (Nat.zero_le m)
 simp only [Builtin.copy_,Sem.run_bind,run_underlying' hu,run_sizeOf' hi,Result.andThen_ok,Sem.run_pure,List.getElem?_toArray,List.getElem?_cons_zero,List.getElem?_cons_succ,hl,h0,hf,goInt]
 rfl
theorem acopy_ok {t e oty : TypeId} {tys : List TypeId} {x y a h' : AV} {xv yv : Value} (H : HS σ h nx w0 B w) (hu : P.underlying t = some (.slice e)) (hx : Rel σ x xv) (hy : Rel σ y yv) (ha : acopy P e h x y = some (a,h')) :
  EffOk P σ h nx w0 B w (Builtin.copy_ ⟨t :: tys⟩ oty #[xv,yv]) a h' nx := by
 unfold acopy at ha
 split at ha
 ·rename_i inf ny hinf hlen
  have hl := lenA_ok (P := P) (w := w) hy hlen
  split at ha
  ·cases hx
   split at ha
   ·rename_i u hf
    simp only [Option.some.injEq,Prod.mk.injEq] at ha
    obtain ⟨rfl,rfl⟩ := ha
    obtain ⟨new,hf',hnew⟩ := firstA_ok (P := P) H hy hlen (Nat.zero_le _) hf
    exact ⟨σ,_,w,SubX.refl nx σ,Dk.refl nx h,Nat.le_refl _,run_copy_nil hu hinf hl (hf' w rfl),.int _ _,H⟩
   ·cases ha
  ·rename_i b off len lb sz
   cases hx with
   | sl _ _ _ _ _ r base size o cap hs q1 q2 q3 q4 =>
   have hk : (bif Nat.ble ny len then ny else len) = Nat.min ny len := by
    cases hb : Nat.ble ny len with
    | true => have := ble_iff.1 hb; simp only [cond_true]; exact (Nat.min_eq_left this).symm
    | false =>
     have : ¬ ny ≤ len := fun hh => by rw [ble_iff.2 hh] at hb; cases hb
     simp only [cond_false]; exact (Nat.min_eq_right (by omega)).symm
   simp only [hk] at ha
   split at ha
   ·rename_i u ety n t' hf hc
    cases hb : (Nat.beq sz inf.size && (Nat.ble (off + Nat.min ny len * sz) n && !(Nat.beq lb 0))) with
    | false => simp [hb] at ha
    | true =>
     simp only [hb,cond_true,Option.some.injEq,Prod.mk.injEq] at ha
     obtain ⟨rfl,rfl⟩ := ha
     simp only [Bool.and_eq_true,Bool.not_eq_true'] at hb
     have e0 := beqn_iff.1 hb.1
     have e1 := ble_iff.1 hb.2.1
     have e2 : lb ≠ 0 := fun e => by rw [beqn_iff.2 e] at hb; simp at hb
     have e3 := q3 e2
     subst e0
     obtain ⟨new,hf',hnew⟩ := firstA_ok (P := P) H hy hlen (Nat.min_le_left _ _) hf
     obtain ⟨w',g1,g2⟩ := H.write (P := P) hs hc hnew e1
     rw [← e3] at g1
     exact ⟨σ,_,w',SubX.refl nx σ,H.dkPut hs (by rw [hc]; rfl),Nat.le_refl _,run_copy hu hinf hl (hf' w rfl) g1,.int _ _,g2⟩
   ·cases ha
  ·cases ha
 ·cases ha
theorem liesAt_off {e : TypeId} (hc : P.cellsOf e = 1) (count off n : Nat) (hn : off + n ≤ count) : liesAt P P.depth e count off e n = true := by
 have hd : P.depth = (2 * (P.types.size + Made.depth) + 1) + 1 := rfl
 rw [hd]
 simp only [liesAt,Bool.or_eq_true]
 left
 rw [hd]
 simp [rowAt,hc,hn,sameLayout,Nat.mod_one]
theorem run_unsafeString {pt it ty e : TypeId} (hp : P.underlying pt = some (.pointer e)) (hc : P.cellsOf e = 1) {g off cells : Nat} (hsh : w.shape? g = some (e,cells)) {l : List UInt8} (h0 : l ≠ []) (hn : off + l.length ≤ cells) (h63 : l.length ≤ 9223372036854775807)
  (hcell : ∀ j x,l[j]? = some x → w.cell? ((⟨g,off,none⟩ : Addr).add j) = some (.int .u8 x.toNat)) :
  (Builtin.unsafeString_ #[pt,it] ty #[.pointer (some ⟨g,off,none⟩),.int .i64 l.length]).run P w = .ok (.string ⟨l.toArray⟩) (w.freeze ⟨g,off,none⟩ l.length) := by
 have hl : l.length ≠ 0 := by simpa using h0
 have hlb := Lib.run_loadBytes (P := P) w l ⟨g,off,none⟩ .empty hcell
 have hlies := liesAt_off (P := P) hc (cells / P.cellsOf e) off l.length (by rw [hc]; simpa using hn)
 have h63' : ¬ (9223372036854775807 : Int) < (l.length : Int) := by omega
 refine Eq.trans (b := Sem.run P (Bind.bind (asInt (.int .i64 l.length)) _) w) rfl ?_
 have hmax : IntKind.i64.max = 9223372036854775807 := rfl
 have hneg : ¬ (l.length : Int) < 0 := by omega
 simp [asInt,asIntOf,hmax,h63',hneg,hl,variablesAt,hsh,elemOf,run_underlying' hp,hlies,hlb]
def StepOk (P : Program) (σ : Sg) (h : AV) (nx : Nat) (w0 : World) (B : Fr) (w : World) (s : Sem Next) (a h' : AV) (nx' : Nat) : Prop :=
 ∃ σ' v w',SubX nx σ σ' ∧ Dk nx h h' ∧ nx ≤ nx' ∧ (s.run P w = .ok (.value v) w' ∨ (s.run P w = .ok .skip w' ∧ v = Go.undef)) ∧ Rel σ' a v ∧ HS σ' h' nx' w0 B w'
theorem EffOk.step {s : Sem Value} {s' : Sem Next} {a h' : AV} {nx' : Nat} (hh : EffOk P σ h nx w0 B w s a h' nx') (hs : ∀ v w',s.run P w = .ok v w' → s'.run P w = .ok (.value v) w') : StepOk P σ h nx w0 B w s' a h' nx' := by
 obtain ⟨σ',v,w',h1,h1',h1'',h2,h3,h4⟩ := hh
 exact ⟨σ',v,w',h1,h1',h1'',.inl (hs v w' h2),h3,h4⟩
theorem HS.mp (H : HS σ h nx w0 B w) {b r base size : Nat} {l : AV} (hb : σ b = some (r,base,size)) (hc : cget HD h b = .mp l) : ∃ es clock,w.heap[r]? = some (.map es clock) ∧ EsRel σ l es.toList ∧ (B.wr r ∨ w0.heap.size ≤ r) ∧ Go.MapKept.Stamped es clock := by
 have := H.blk b (H.lt hb)
 rw [hc] at this
 obtain ⟨r',base',size',es,clock,h1,h2,h3,h4⟩ := this
 rw [hb] at h1
 simp only [Option.some.injEq,Prod.mk.injEq] at h1
 obtain ⟨rfl,rfl,rfl⟩ := h1
 exact ⟨es,clock,h2,h3.1,h4,h3.2⟩
theorem HS.setMap (H : HS σ h nx w0 B w) {b r base size : Nat} {l l' : AV} {es' : Array MapEntry} {clock' : Nat} (hb : σ b = some (r,base,size)) (hc : cget HD h b = .mp l) (hl : EsRel σ l' es'.toList) (hst : Go.MapKept.Stamped es' clock') :
  HS σ (cput HD h b (.mp l')) nx w0 B { w with heap := w.heap.setIfInBounds r (.map es' clock') } := by
 obtain ⟨es,clock,h2,h3,h4,_⟩ := H.mp hb hc
 exact H.upd hb (by rw [hc]; rfl) h4 rfl rfl rfl rfl ⟨r,base,size,es',clock',hb,by simp [lt_of_get h2],⟨hl,hst⟩,h4⟩
theorem amapUpd_ok {t : TypeId} {m k x a h' : AV} {nx' : Nat} {mv kv xv : Value} (H : HS σ h nx w0 B w) (hm : Rel σ m mv) (hk : Rel σ k kv) (hx : Rel σ x xv) (ha : amapUpd P h nx t m k x = some (a,h',nx')) :
  ∃ w',(Instr.mapUpdate t mv kv xv).run P w = .ok () w' ∧ a = .undef ∧ nx' = nx ∧ Dk nx h h' ∧ HS σ h' nx w0 B w' := by
 unfold amapUpd at ha
 split at ha
 ·rename_i kt e b hu
  cases hm with
  | map _ r base size hs =>
  split at ha
  ·rename_i kd l hkd hc
   cases hf : fitKey kd k with
   | false => simp [hf] at ha
   | true =>
    simp only [hf,cond_true] at ha
    obtain ⟨es,clock,h2,h3,h4,hst⟩ := H.mp hs hc
    have hgo : (getObj r).run P w = .ok (.map es clock) w := by simp [getObj,Sem.run,h2]
    have hso : ∀ o,(setObj r o).run P w = .ok () { w with heap := w.heap.setIfInBounds r o } := fun o => by simp [setObj,Sem.run,h2]
    have hchk := fit_check (P := P) (w := w) hk hkd hf false
    split at ha
    ·rename_i i v hfi
     simp only [Option.some.injEq,Prod.mk.injEq] at ha
     obtain ⟨rfl,rfl,rfl⟩ := ha
     rcases findI_ok hk hf h3 hfi with ⟨g,_⟩ | ⟨j,v',u,g1,g2,g3,g4,en,g5,g6,g7⟩
     ·cases g
     ·simp only [Option.some.injEq,Prod.mk.injEq] at g1
      obtain ⟨rfl,rfl⟩ := g1
      rw [Nat.sub_zero] at g5
      have hget : es[i]? = some en := by simpa using g5
      have hlt : i < es.size := (Array.getElem?_eq_some_iff.1 hget).1
      have hkt : (Instr.keyThatStays (((es[i]?).map (·.key)).getD kv) kv).run P w = .ok kv w := by
       rw [hget]
       simp only [Option.map_some,Option.getD_some,Instr.keyThatStays,same_bits g7,if_true]; rfl
      have hmod : es.modify i (fun e => { e with key := kv,val := xv }) = (es.toList.set i { en with key := kv,val := xv }).toArray := by
       apply Array.ext'
       apply List.ext_getElem?
       intro q
       simp only [Array.getElem?_toList,Array.getElem?_modify,List.getElem?_set,Array.length_toList]
       by_cases hq : i = q
       ·subst hq; simp [hlt]; rw [(Array.getElem?_eq_some_iff.1 hget).2]
       ·simp [hq]
      refine ⟨_,?_,rfl,rfl,H.dkPut hs (by rw [hc]; rfl),H.setMap (clock' := clock) (es' := es.modify i (fun e => { e with key := kv,val := xv })) hs hc (by rw [hmod]; exact EsRel.set hk hx h3 g5) (Go.MapKept.stamped_modify hst i _ (fun _ _ => rfl) (fun e _ hge => by rw [hget] at hge; cases hge; exact same_eq g7))⟩
      simp only [Instr.mapUpdate,Sem.run_bind,run_underlying' hu,Result.andThen_ok,hgo,hchk,run_findKey' hkd g2,hkt,hso]
    ·rename_i hfi
     simp only [Option.some.injEq,Prod.mk.injEq] at ha
     obtain ⟨rfl,rfl,rfl⟩ := ha
     rcases findI_ok hk hf h3 hfi with ⟨_,g2⟩ | ⟨j,v',u,g1,_⟩
     ·refine ⟨_,?_,rfl,rfl,H.dkPut hs (by rw [hc]; rfl),H.setMap (clock' := clock + 1) (es' := es.push { key := kv,val := xv,born := clock }) hs hc (by rw [Array.toList_push]; exact EsRel.push hk hx h3) (Go.MapKept.stamped_push hst (find_none (same_self hk hf) g2))⟩
      simp only [Instr.mapUpdate,Sem.run_bind,run_underlying' hu,Result.andThen_ok,hgo,hchk,run_findKey' hkd g2,hso]
     ·cases g1
    ·cases ha
  ·cases ha
 ·cases ha
theorem next_clone : (Extern.allNextRows.lookup "maps.clone").isNone = true := by kernel_rfl
theorem generic_clone : (Extern.allGenericRows.lookup "maps.clone").isNone = true := by kernel_rfl
theorem typed_clone : (Extern.allTypedRows.lookup "maps.clone").isNone = true := by kernel_rfl
theorem row_clone : Extern.allRows.lookup "maps.clone" = some Extern.MapsClone.clone := by kernel_rfl
theorem next_count : (Extern.allNextRows.lookup "internal/bytealg.CountString").isNone = true := by kernel_rfl
theorem generic_count : (Extern.allGenericRows.lookup "internal/bytealg.CountString").isNone = true := by kernel_rfl
theorem typed_count : (Extern.allTypedRows.lookup "internal/bytealg.CountString").isNone = true := by kernel_rfl
theorem row_count : Extern.allRows.lookup "internal/bytealg.CountString" = some Extern.BytealgCount.count := by kernel_rfl
theorem run_extern1 {f : Nat} {fn : Func} {nm : String} {ex : Array Value → Sem Value} {args : Array Value} {v : Value} {w' : World} (hf : P.funcs[f]? = some fn) (hb : fn.body.isNone = true) (hn : fn.name = nm) (ho : fn.origin = "")
  (q1 : (Extern.allNextRows.lookup nm).isNone = true) (q2 : (Extern.allGenericRows.lookup nm).isNone = true) (q3 : (Extern.allTypedRows.lookup nm).isNone = true) (q4 : Extern.allRows.lookup nm = some ex) (q5 : (nm == "runtime.NumGoroutine") = false)
  (hr : (ex args).run P w = .ok v w') : (callFunc f args).run P w = .ok (.value v) w' := by
 have e1 : Extern.allNextRows.lookup nm = none := Option.isNone_iff_eq_none.1 q1
 have e2 : Extern.allNextRows.lookup "" = none := Option.isNone_iff_eq_none.1 next_empty
 have e3 : Extern.allGenericRows.lookup nm = none := Option.isNone_iff_eq_none.1 q2
 have e4 : Extern.allTypedRows.lookup nm = none := Option.isNone_iff_eq_none.1 q3
 have h1 : Extern.findNext fn = none := by
  unfold Extern.findNext
  simp only [hn,ho,e1,e2,Option.map_none]; rfl
 have h2 : Extern.find fn = some ex := by
  unfold Extern.find
  simp only [hn,ho,e3,e4,q4,Option.map_none]; rfl
 have h3 : (fn.name == "runtime.NumGoroutine") = false := by rw [hn]; exact q5
 unfold callFunc
 simp only [Sem.run_bind,program,Sem.run,Result.andThen_ok,hf,h3,hb,Bool.false_eq_true,if_false,if_true,mark,h1,h2]
 rw [hr]
 rfl
theorem cntF_rev (c : Nat) (hc : c < 256) : ∀ (r : List UInt8) (a : Nat),cntF c r.length (val r.reverse) a = a + r.count c.toUInt8
 | [],a => rfl
 | b :: r,a => by
  rw [List.reverse_cons,List.length_cons,val_append,List.length_singleton,show val [b] = b.toNat by simp [val,strOf],Nat.pow_one,cntF]
  have hb := b.toNat_lt
  rw [show (val r.reverse * 256 + b.toNat) / 256 = val r.reverse by omega,show (val r.reverse * 256 + b.toNat) % 256 = b.toNat by omega,cntF_rev c hc r,List.count_cons]
  have hcc : Nat.beq b.toNat c = (b == c.toUInt8) := by
   rw [Bool.eq_iff_iff,beqn_iff,beq_iff_eq]
   constructor
   ·intro h; rw [← h]; simp
   ·intro h; rw [h]; simp; omega
  rw [hcc]
  cases b == c.toUInt8 <;> simp <;> omega
theorem cntF_eq (c : Nat) (l : List UInt8) (a : Nat) (hc : c < 256) : cntF c l.length (val l) a = a + l.count c.toUInt8 := by
 have := cntF_rev c hc l.reverse a
 rwa [List.length_reverse,List.reverse_reverse,List.count_reverse] at this
theorem acountS_ok {x y a h' : AV} {nx' : Nat} {xv yv : Value} (H : HS σ h nx w0 B w) (hx : Rel σ x xv) (hy : Rel σ y yv) (ha : acountS h nx x y = some (a,h',nx')) : EffOk P σ h nx w0 B w (Extern.BytealgCount.count #[xv,yv]) a h' nx' := by
 unfold acountS at ha
 split at ha
 ·rename_i n s c
  cases hx with
  | str t _ _ hn hs =>
  cases hy with
  | int _ _ =>
  cases hc : Nat.blt c 256 with
  | false => simp [hc] at ha
  | true =>
   simp only [hc,cond_true,Option.some.injEq,Prod.mk.injEq] at ha
   obtain ⟨rfl,rfl,rfl⟩ := ha
   have hr := Lib.run_countString (P := P) t (.ofNat c) w
   refine ⟨σ,_,w,SubX.refl nx σ,Dk.refl nx h,Nat.le_refl _,hr,?_,H⟩
   have e : cntF c n s 0 = Lib.countByte t.data.toList c.toUInt8 := by
    have hl : n = t.data.toList.length := by rw [hn]; simp
    rw [hs,hl,cntF_eq c _ _ (blt_iff.1 hc),Nat.zero_add]; rfl
   rw [e]
   exact .int _ _
 ·cases ha
theorem acloneM_ok {x a h' : AV} {nx' : Nat} {xv : Value} (H : HS σ h nx w0 B w) (hx : Rel σ x xv) (ha : acloneM h nx x = some (a,h',nx')) : EffOk P σ h nx w0 B w (Extern.MapsClone.clone #[xv]) a h' nx' := by
 unfold acloneM at ha
 split at ha
 ·rename_i t b
  cases hx with
  | ifc _ _ vv hv =>
  cases hv with
  | map _ r base size hs =>
  split at ha
  ·rename_i l hc
   cases hn : Nat.blt nx (2 ^ HD) with
   | false => simp [hn] at ha
   | true =>
    simp only [hn,cond_true,Option.some.injEq,Prod.mk.injEq] at ha
    obtain ⟨rfl,rfl,rfl⟩ := ha
    obtain ⟨es,clock,h2,h3,h4,hst⟩ := H.mp hs hc
    have hgo : (getObj r).run P w = .ok (.map es clock) w := by simp [getObj,Sem.run,h2]
    have H' := H.new (blt_iff.1 hn) (p := (w.heap.size,0,0)) (x := .mp l) (w' := w.alloc (.map es clock)) rfl rfl rfl rfl rfl
     ⟨w.heap.size,0,0,es,clock,by simp [ext],K.get_alloc w _,⟨h3.mono (H.sub_ext _),hst⟩,.inr H.size⟩
    refine ⟨ext σ nx (w.heap.size,0,0),.iface t (.map (some w.heap.size)),_,H.subX _,dkNew (blt_iff.1 hn),by omega,?_,.ifc _ _ _ (.map _ w.heap.size 0 0 (by simp [ext])),H'⟩
    refine Eq.trans (b := Sem.run P (Bind.bind (getObj r) _) w) rfl ?_
    simp only [Sem.run_bind,hgo,Result.andThen_ok]
    rfl
  ·cases ha
 ·cases ha
theorem aeff_ok {ρ : Operand → AV} {ev : Operand → Value} {o : Oper} {a h' : AV} {nx' : Nat} (H : HS σ h nx w0 B w) (hfv : ∀ f,ev (.func f) = .func (.func f) #[] #[]) (hρ : ∀ x,Rel σ (ρ x) (ev x)) (ha : aeff P ρ h nx o = some (a,h',nx')) :
  StepOk P σ h nx w0 B w (execOp ev o) a h' nx' := by
 obtain ⟨dst,op,oty,pos,after,guard⟩ := o
 unfold aeff at ha
 dsimp only at ha
 split at ha
 ·rename_i ty x y
  split at ha
  ·rename_i b off m s inf he hr hinf
   split at ha
   ·rename_i ety n t hc
    cases hb : (Nat.beq m inf.size && Nat.ble (off + m) n) with
    | false => simp [hb] at ha
    | true =>
     simp only [hb,cond_true,Option.some.injEq,Prod.mk.injEq] at ha
     obtain ⟨rfl,rfl,rfl⟩ := ha
     simp only [Bool.and_eq_true] at hb
     have e0 := beqn_iff.1 hb.1
     have e1 := ble_iff.1 hb.2
     have hx := hρ x
     rw [he] at hx
     generalize hxv : ev x = xv at hx
     cases hx with
     | ptr _ _ r base size o hs ho =>
     have hrow := rowA_ok (hρ y) hr
     obtain ⟨w',g1,g2⟩ := H.write (P := P) hs hc hrow e1
     refine ⟨σ,Go.undef,w',SubX.refl nx σ,H.dkPut hs (by rw [hc]; rfl),Nat.le_refl _,.inr ⟨?_,rfl⟩,.undef,g2⟩
     rw [← ho] at g1
     have e2 : ¬ ((ev y).cells.size ≠ inf.size) := by rw [hrow.1]; omega
     simp [execOp,hxv,Instr.storeAt,Instr.sureAddr,storeVar,run_sizeOf' hinf,hrow.1,e0,g1]
   ·cases ha
  ·cases ha
 ·rename_i x y t t2
  split at ha
  ·rename_i e hu
   exact (aappend_ok (oty := oty) H hu (hρ x) (hρ y) ha).step (fun v w' hv => by simp [execOp,resolve,invoke,builtin,hv])
  ·cases ha
 ·rename_i x y t tys
  split at ha
  ·rename_i e hu
   split at ha
   ·rename_i r hr
    simp only [Option.some.injEq,Prod.mk.injEq] at ha
    obtain ⟨rfl,rfl,rfl⟩ := ha
    exact (acopy_ok (oty := oty) (tys := tys) H hu (hρ x) (hρ y) hr).step (fun v w' hv => by simp [execOp,resolve,invoke,builtin,hv])
   ·cases ha
  ·cases ha
 ·rename_i x y pt it
  have hx := hρ x
  have hy := hρ y
  generalize hxv : ev x = xv at hx
  generalize hyv : ev y = yv at hy
  have hrun : ∀ v w',(Builtin.unsafeString_ #[pt,it] oty #[xv,yv]).run P w = .ok v w' → (execOp ev ⟨dst,.call ⟨.builtin .unsafeString,⟨[x,y]⟩,⟨[pt,it]⟩⟩,oty,pos,after,guard⟩).run P w = .ok (.value v) w' := by
   intro v w' hv
   simp [execOp,resolve,invoke,builtin,hxv,hyv,hv]
  split at ha
  ·rename_i he1 he2
   simp only [Option.some.injEq,Prod.mk.injEq] at ha
   obtain ⟨rfl,rfl,rfl⟩ := ha
   rw [he1] at hx; rw [he2] at hy
   cases hx; cases hy
   exact ⟨σ,_,w,SubX.refl nx σ,Dk.refl nx h,Nat.le_refl _,.inl (hrun _ _ (Lib.run_unsafeString_none w pt it oty none)),.str _ _ _ rfl rfl,H⟩
  ·rename_i b off he1 he2
   simp only [Option.some.injEq,Prod.mk.injEq] at ha
   obtain ⟨rfl,rfl,rfl⟩ := ha
   rw [he1] at hx; rw [he2] at hy
   cases hx; cases hy
   exact ⟨σ,_,w,SubX.refl nx σ,Dk.refl nx h,Nat.le_refl _,.inl (hrun _ _ (Lib.run_unsafeString_none w pt it oty _)),.str _ _ _ rfl rfl,H⟩
  ·rename_i b off k hk0 he1 he2
   split at ha
   ·rename_i ety n t e hc hu
    cases hb : (Nat.beq (ety / 2) e && (Nat.beq (P.cellsOf e) 1 && (Nat.ble (off + k) n && Nat.ble k 9223372036854775807))) with
    | false => simp [hb] at ha
    | true =>
     simp only [hb,cond_true] at ha
     simp only [Bool.and_eq_true] at hb
     have e0 := beqn_iff.1 hb.1
     have e1 := beqn_iff.1 hb.2.1
     have e2 := ble_iff.1 hb.2.2.1
     have e3 := ble_iff.1 hb.2.2.2
     have ek : k ≠ 0 := hk0
     subst e0
     split at ha
     ·rename_i z hz
      simp only [Option.some.injEq,Prod.mk.injEq] at ha
      obtain ⟨rfl,rfl,rfl⟩ := ha
      rw [he1] at hx; rw [he2] at hy
      cases hy
      cases hx with
      | ptr _ _ r base size o hs ho =>
      obtain ⟨cs,fr,h1,h2,h3,h4,h5⟩ := H.cellsT hs hc (.inl rfl)
      obtain ⟨h6,h7⟩ := h5 rfl
      obtain ⟨l,g1,g2,g3⟩ := bytesOf_ok (cs := cs) (base := base) (σ := σ) hz (fun j hj hj' => by
       obtain ⟨v,f1,f2,f3⟩ := h4 j (by omega)
       exact ⟨v,f1,f3⟩)
      have hl0 : l ≠ [] := fun e => by rw [e] at g1; exact ek (by simpa using g1.symm)
      have hsh : w.shape? r = some (ety / 2,size) := by simp [World.shape?,h1,h2]
      have hrs := run_unsafeString (P := P) (w := w) (it := it) (ty := oty) hu e1 hsh (off := o) hl0 (by omega) (by omega) (fun j x hj => by
       have hjl := (List.getElem?_eq_some_iff.1 hj).1
       rw [add_none,cell_cells h1,ho,Nat.add_assoc,g3 j (by omega),List.getD_eq_getElem?_getD,hj]; rfl)
      rw [g1] at hrs
      let w2 := w.freeze ⟨r,o,none⟩ k
      have hw2 : ∃ fr',w2.heap = w.heap.setIfInBounds r (.cells cs (ety / 2) fr') := by
       refine ⟨if fr.1 == fr.2 then (o,o + k) else (min fr.1 o,max fr.2 (o + k)),?_⟩
       simp only [w2,World.freeze]
       rw [if_neg (fun e => by rw [e] at g1; exact hl0 (List.eq_nil_of_length_eq_zero g1))]
       apply Array.ext_getElem?
       intro i
       simp only [Array.getElem?_modify]
       have hlt := lt_of_get h1
       by_cases hi : r = i
       ·subst hi
        rw [if_pos rfl,h1]
        simp only [Option.map_some,Array.getElem?_setIfInBounds,hlt,if_true]
       ·simp [hi]
      obtain ⟨fr',hw2⟩ := hw2
      refine ⟨σ,.string ⟨l.toArray⟩,w2,SubX.refl nx σ,H.dkPut hs (by rw [hc]; rfl),Nat.le_refl _,.inl (hrun _ _ hrs),.str _ _ _ (by show k = l.toArray.size; simp [g1]) (by simpa [val] using g2),?_⟩
      have hg2 : w2.heap[r]? = some (.cells cs (ety / 2) fr') := by rw [hw2]; simp [lt_of_get h1]
      have hos : w2.os = w.os ∧ w2.tape = w.tape ∧ w2.output = w.output := by
       simp only [w2,World.freeze]
       split <;> exact ⟨rfl,rfl,rfl⟩
      exact H.upd hs (by rw [hc]; rfl) h7 hw2 hos.1 hos.2.1 hos.2.2 ⟨r,base,size,cs,fr',ety / 2,hs,hg2,h2,h3,h4,(fun hh => by cases hh),fun _ => rfl⟩
     ·cases ha
   ·cases ha
  ·cases ha
 ·rename_i f x tys
  split at ha
  ·rename_i fn hf
   cases hb : (fn.body.isNone && (fn.name == "internal/abi.NoEscape" && fn.origin == "")) with
   | false =>
    simp only [hb,cond_false] at ha
    cases hb2 : (fn.body.isNone && (fn.name == "maps.clone" && fn.origin == "")) with
    | false => simp [hb2] at ha
    | true =>
     simp only [hb2,cond_true] at ha
     simp only [Bool.and_eq_true,beq_iff_eq] at hb2
     have hxx := hρ x
     refine (acloneM_ok H hxx ha).step fun v w' hr => ?_
     simp only [execOp,resolve,hfv f,Deferred.ofValue,Sem.run_bind,Sem.run_pure,Result.andThen_ok,invoke]
     have e : (#[] ++ Array.map ev { toList := [x] } ++ #[] : Array Value) = #[ev x] := by simp
     rw [e,run_extern1 hf hb2.1 hb2.2.1 hb2.2.2 next_clone generic_clone typed_clone row_clone (by decide) hr]
   | true =>
    simp only [hb,cond_true,Option.some.injEq,Prod.mk.injEq] at ha
    obtain ⟨rfl,rfl,rfl⟩ := ha
    simp only [Bool.and_eq_true,beq_iff_eq] at hb
    have hr := run_noEscape (P := P) (w := w) (x := ev x) hf hb.1 hb.2.1 hb.2.2
    have hfn := hρ (.func f)
    refine ⟨σ,ev x,w,SubX.refl nx σ,Dk.refl nx h,Nat.le_refl _,.inl ?_,hρ x,H⟩
    simp only [execOp,resolve,hfv f,Deferred.ofValue,Sem.run_bind,Sem.run_pure,Result.andThen_ok,invoke]
    have e : (#[] ++ Array.map ev { toList := [x] } ++ #[] : Array Value) = #[ev x] := by simp
    rw [e]; exact hr
  ·cases ha
 ·rename_i f x y tys
  split at ha
  ·rename_i fn hf
   cases hb : (fn.body.isNone && (fn.name == "internal/bytealg.CountString" && fn.origin == "")) with
   | false => simp [hb] at ha
   | true =>
    simp only [hb,cond_true] at ha
    simp only [Bool.and_eq_true,beq_iff_eq] at hb
    refine (acountS_ok H (hρ x) (hρ y) ha).step fun v w' hr => ?_
    simp only [execOp,resolve,hfv f,Deferred.ofValue,Sem.run_bind,Sem.run_pure,Result.andThen_ok,invoke]
    have e : (#[] ++ Array.map ev { toList := [x,y] } ++ #[] : Array Value) = #[ev x,ev y] := by simp
    rw [e,run_extern1 hf hb.1 hb.2.1 hb.2.2 next_count generic_count typed_count row_count (by decide) hr]
  ·cases ha
 ·rename_i t m k x
  obtain ⟨w',g1,rfl,rfl,g4,g5⟩ := amapUpd_ok (P := P) H (hρ m) (hρ k) (hρ x) ha
  refine ⟨σ,Go.undef,w',SubX.refl _ σ,g4,Nat.le_refl _,.inr ⟨?_,rfl⟩,.undef,g5⟩
  simp only [execOp,Sem.run_bind,g1,Result.andThen_ok,Sem.run_pure]
 ·rename_i t m k x
  obtain ⟨w',g1,rfl,rfl,g4,g5⟩ := amapUpd_ok (P := P) H (hρ m) (hρ k) (hρ x) ha
  refine ⟨σ,Go.undef,w',SubX.refl _ σ,g4,Nat.le_refl _,.inr ⟨?_,rfl⟩,.undef,g5⟩
  simp only [execOp,Sem.run_bind,g1,Result.andThen_ok,Sem.run_pure]
 ·rename_i x t
  have hx := hρ x
  generalize hxv : ev x = xv at hx
  have hrun : ∀ v w',(Builtin.clear_ #[t] oty #[xv]).run P w = .ok v w' → (execOp ev ⟨dst,.call ⟨.builtin .clear,⟨[x]⟩,⟨[t]⟩⟩,oty,pos,after,guard⟩).run P w = .ok (.value v) w' := by
   intro v w' hv
   simp [execOp,resolve,invoke,builtin,hxv,hv]
  split at ha
  ·rename_i d0 b hu he
   rw [he] at hx
   cases hx with
   | map _ r base size hs =>
   split at ha
   ·rename_i l hc
    simp only [Option.some.injEq,Prod.mk.injEq] at ha
    obtain ⟨rfl,rfl,rfl⟩ := ha
    obtain ⟨es,clock,h2,h3,h4,hst⟩ := H.mp hs hc
    have hgo : (getObj r).run P w = .ok (.map es clock) w := by simp [getObj,Sem.run,h2]
    have hso : ∀ o,(setObj r o).run P w = .ok () { w with heap := w.heap.setIfInBounds r o } := fun o => by simp [setObj,Sem.run,h2]
    refine ⟨σ,Go.undef,_,SubX.refl _ σ,H.dkPut hs (by rw [hc]; rfl),Nat.le_refl _,.inl (hrun _ _ ?_),.undef,H.setMap (es' := #[]) (clock' := clock) hs hc trivial (Go.MapKept.stamped_empty clock)⟩
    simp only [Builtin.clear_,Sem.run_bind,run_underlying' hu,Result.andThen_ok,hgo,hso,Sem.run_pure,List.getElem?_toArray,List.getElem?_cons_zero]
    rfl
   ·cases ha
  ·rename_i d0 hu he
   rw [he] at hx
   cases hx
   simp only [Option.some.injEq,Prod.mk.injEq] at ha
   obtain ⟨rfl,rfl,rfl⟩ := ha
   refine ⟨σ,Go.undef,w,SubX.refl _ σ,Dk.refl _ _,Nat.le_refl _,.inl (hrun _ _ ?_),.undef,H⟩
   simp only [Builtin.clear_,Sem.run_bind,run_underlying' hu,Result.andThen_ok,Sem.run_pure,List.getElem?_toArray,List.getElem?_cons_zero]
   rfl
  ·cases ha
 ·rename_i x k t tys
  have hx := hρ x
  generalize hxv : ev x = xv at hx
  have hrun : ∀ v w',(Builtin.delete_ ⟨t :: tys⟩ oty #[xv,ev k]).run P w = .ok v w' → (execOp ev ⟨dst,.call ⟨.builtin .delete,⟨[x,k]⟩,⟨t :: tys⟩⟩,oty,pos,after,guard⟩).run P w = .ok (.value v) w' := by
   intro v w' hv
   simp [execOp,resolve,invoke,builtin,hxv,hv]
  split at ha
  ·rename_i kt e b hu he
   rw [he] at hx
   cases hx with
   | map _ r base size hs =>
   split at ha
   ·rename_i kd l hkd hc
    cases hf : fitKey kd (ρ k) with
    | false => simp [hf] at ha
    | true =>
     simp only [hf,cond_true] at ha
     obtain ⟨es,clock,h2,h3,h4,hst⟩ := H.mp hs hc
     have hgo : (getObj r).run P w = .ok (.map es clock) w := by simp [getObj,Sem.run,h2]
     have hso : ∀ o,(setObj r o).run P w = .ok () { w with heap := w.heap.setIfInBounds r o } := fun o => by simp [setObj,Sem.run,h2]
     have hchk := fun em => fit_check (P := P) (w := w) (hρ k) hkd hf em
     split at ha
     ·rename_i i v hfi
      simp only [Option.some.injEq,Prod.mk.injEq] at ha
      obtain ⟨rfl,rfl,rfl⟩ := ha
      rcases findI_ok (hρ k) hf h3 hfi with ⟨g,_⟩ | ⟨j,v',u,g1,g2,g3,g4,en,g5,g6,g7⟩
      ·cases g
      ·simp only [Option.some.injEq,Prod.mk.injEq] at g1
       obtain ⟨rfl,rfl⟩ := g1
       rw [Nat.sub_zero] at g5
       have hlt : i < es.size := by
        have := (List.getElem?_eq_some_iff.1 g5).1
        simpa using this
       refine ⟨σ,Go.undef,_,SubX.refl _ σ,H.dkPut hs (by rw [hc]; rfl),Nat.le_refl _,.inl (hrun _ _ ?_),.undef,H.setMap (es' := es.eraseIdxIfInBounds i) (clock' := clock) hs hc (by
        rw [show (es.eraseIdxIfInBounds i).toList = es.toList.eraseIdx i by rw [Array.eraseIdxIfInBounds_eq]; simp [hlt]]
        exact EsRel.drop h3 (by simpa using hlt)) (Go.MapKept.stamped_erase hst i)⟩
       simp only [Builtin.delete_,Sem.run_bind,run_underlying' hu,Result.andThen_ok,hgo,hchk,run_findKey' hkd g2,hso,Sem.run_pure,List.getElem?_toArray,List.getElem?_cons_zero,List.getElem?_cons_succ]
       rfl
     ·rename_i hfi
      simp only [Option.some.injEq,Prod.mk.injEq] at ha
      obtain ⟨rfl,rfl,rfl⟩ := ha
      rcases findI_ok (hρ k) hf h3 hfi with ⟨_,g2⟩ | ⟨j,v',u,g1,_⟩
      ·have hsame : (HS σ (cput HD h b (.mp l)) nx w0 B { w with heap := w.heap.setIfInBounds r (.map es clock) }) := H.setMap hs hc h3 hst
       have hw : ({ w with heap := w.heap.setIfInBounds r (.map es clock) } : World) = w := by
        have : w.heap.setIfInBounds r (.map es clock) = w.heap := by
         apply Array.ext_getElem?
         intro q
         by_cases hq : r = q
         ·subst hq; rw [h2]; simp [lt_of_get h2]
         ·simp [hq]
        rw [this]
       refine ⟨σ,Go.undef,w,SubX.refl _ σ,Dk.refl _ _,Nat.le_refl _,.inl (hrun _ _ ?_),.undef,H⟩
       simp only [Builtin.delete_,Sem.run_bind,run_underlying' hu,Result.andThen_ok,hgo,hchk,run_findKey' hkd g2,hso,Sem.run_pure,List.getElem?_toArray,List.getElem?_cons_zero,List.getElem?_cons_succ,hw]
       rfl
      ·cases g1
     ·cases ha
   ·cases ha
  ·cases ha
 ·cases ha
end
end I
end Go.Proofs.YtojefiolcedigaaGreatDoor
namespace Go.Proofs.YtojefiolcedigaaGreatDoor
namespace I
open K (one aggB run_underlying' run_sizeOf' add_none run_v cell_cells)
set_option linter.unusedVariables false
def opndA (G n d : Nat) (tm : AV) : Operand → AV
 | .tmp t => bif Nat.blt t n then cget d tm t else .undef
 | .const v => ofConst v
 | .global g => bif Nat.blt g G then .ptr g 0 else .bad
 | .func f => .fn f .lnil .lnil
def putA (n d : Nat) (tm : AV) : Option Nat → AV → AV
 | none,_ => tm
 | some t,v => bif Nat.blt t n then cput d tm t v else tm
structure SlotRel (ds : List Deferred) (σ : Sg) (n d : Nat) (tm : AV) (a : Act) : Prop where
 size : a.tmps.size = n
 dfr : a.defers = ds
 le : n ≤ 2 ^ d
 sl : ∀ t,t < n → Rel σ (cget d tm t) (a.tmps.getD t Go.undef)
def GRel (σ : Sg) (G : Nat) : Prop := ∀ g,g < G → ∃ size,σ g = some (g,0,size)
theorem GRel.mono {σ σ' : Sg} {G : Nat} (h : GRel σ G) (hs : Sub σ σ') : GRel σ' G := fun g hg => by
 obtain ⟨size,h1⟩ := h g hg
 exact ⟨size,hs _ _ h1⟩
section
variable {P : Program} {ds : List Deferred} {σ σ' : Sg} {G n d : Nat} {tm : AV} {a : Act}
theorem SlotRel.mono (h : SlotRel ds σ n d tm a) (hs : Sub σ σ') : SlotRel ds σ' n d tm a := ⟨h.size,h.dfr,h.le,fun t ht => (h.sl t ht).mono hs⟩
theorem opnd_ok (hs : SlotRel ds σ n d tm a) (hg : GRel σ G) (x : Operand) : Rel σ (opndA G n d tm x) (a.eval x) := by
 cases x with
 | tmp t =>
  simp only [opndA,Act.eval]
  cases hb : Nat.blt t n with
  | true => simp only [cond_true]; exact hs.sl t (blt_iff.1 hb)
  | false =>
   have := blt_false.1 hb
   simp only [cond_false]
   rw [Array.getD_eq_getD_getElem?,Array.getElem?_eq_none (by rw [hs.size]; exact this)]
   exact .undef
 | const v => exact ofConst_ok σ v
 | global g =>
  simp only [opndA,Act.eval]
  cases hb : Nat.blt g G with
  | true =>
   obtain ⟨size,h1⟩ := hg g (blt_iff.1 hb)
   simp only [cond_true]
   exact .ptr _ _ g 0 size 0 h1 rfl
  | false => simp only [cond_false]; exact .bad _
 | func f => exact .fn f .lnil .lnil #[] #[] rfl rfl (fun i a v h => by simp [toList] at h) (fun i a v h => by simp [toList] at h)
theorem put_ok (hs : SlotRel ds σ n d tm a) {dst : Option Nat} {v : AV} {v' : Value} (hv : Rel σ v v') : SlotRel ds σ n d (putA n d tm dst v) (a.put dst v') := by
 cases dst with
 | none => exact hs
 | some t =>
  simp only [putA]
  cases hb : Nat.blt t n with
  | false =>
   have hlt := blt_false.1 hb
   simp only [cond_false]
   refine ⟨by simp [Act.put,hs.size],hs.dfr,hs.le,fun u hu => ?_⟩
   simp only [Act.put]
   rw [K.getD_set,if_neg (by rw [hs.size]; omega)]
   exact hs.sl u hu
  | true =>
   have hlt := blt_iff.1 hb
   simp only [cond_true]
   refine ⟨by simp [Act.put,hs.size],hs.dfr,hs.le,fun u hu => ?_⟩
   have hle := hs.le
   simp only [Act.put]
   rw [cget_cput d tm t u v (by omega) (by omega),K.getD_set]
   by_cases hut : u = t
   ·rw [if_pos hut,if_pos ⟨hut,by rw [hs.size]; exact hlt⟩]; exact hv
   ·rw [if_neg hut,if_neg (fun h => hut h.1)]; exact hs.sl u hu
theorem rel_bool {x : AV} {b : Bool} (h : Rel σ x (.bool b)) (hb : x ≠ .bad) : x = .bool b := by
 cases h with
 | bad => exact absurd rfl hb
 | bool => rfl
def wantA (n d : Nat) (ops : Array Oper) (tm : AV) (o : Oper) : Option Bool :=
 match o.guard with
 | none => some true
 | some (j,want) => match (ops[j]?).bind (·.dst) with
  | none => none
  | some t => bif Nat.blt t n then
    match cget d tm t with
    | .bool b => some (b == want)
    | .bad => none
    | _ => some false
   else none
theorem wantA_ok (hs : SlotRel ds σ n d tm a) {ops : Array Oper} {o : Oper} {b : Bool} (h : wantA n d ops tm o = some b) : Region.wanted o (yielded ops a.tmps) = b := by
 unfold wantA at h
 split at h
 ·rename_i hg
  simp only [Option.some.injEq] at h
  subst h
  simp [Region.wanted,hg]
 ·rename_i j want hg
  split at h
  ·cases h
  ·rename_i t ht
   cases hb : Nat.blt t n with
   | false => simp [hb] at h
   | true =>
    simp only [hb,cond_true] at h
    have hr := hs.sl t (blt_iff.1 hb)
    have hw := K.wanted_iff (tm := a.tmps) hg ht
    split at h
    ·rename_i c hc
     simp only [Option.some.injEq] at h
     rw [hc] at hr
     generalize hv : a.tmps.getD t Go.undef = v at hr hw
     cases hr
     rw [Bool.eq_iff_iff,hw,← h]
     simp
    ·cases h
    ·rename_i hnb hne
     simp only [Option.some.injEq] at h
     rw [← h,Bool.eq_false_iff]
     intro hh
     have := hw.1 hh
     rw [this] at hr
     exact hnb _ (rel_bool hr (fun e => hne (by rw [e])))
end
inductive SR where
 | val (v h : AV) (nx : Nat)
 | call (f : Nat) (args : List AV)
def acallee (ρ : Operand → AV) (o : Oper) : Option (Nat × List AV) :=
 match o.op with
 | .call ⟨.value f,args,_⟩ => match ρ f with
  | .fn g first caps => some (2 * g,toList first ++ (args.toList.map ρ ++ toList caps))
  | .yld b => some (2 * b + 1,args.toList.map ρ)
  | _ => none
 | _ => none
def astep (P : Program) (ρ : Operand → AV) (h : AV) (nx : Nat) (o : Oper) : Option SR :=
 match apure P ρ o with
 | some v => some (.val v h nx)
 | none => match aread P ρ h o with
  | some v => some (.val v h nx)
  | none => match anew P ρ o with
   | some (nv,x) => bif Nat.blt nx (2 ^ HD) then some (.val (nv.at nx) (cput HD h nx x) (nx + 1)) else none
   | none => match aeff P ρ h nx o with
    | some (v,h',nx') => some (.val v h' nx')
    | none => match acallee ρ o with
     | some (f,args) => some (.call f args)
     | none => none
def RelL (σ : Sg) (l : List AV) (vs : List Value) : Prop := l.length = vs.length ∧ ∀ (i : Nat) a v,l[i]? = some a → vs[i]? = some v → Rel σ a v
section
variable {P : Program} {σ : Sg} {h : AV} {nx : Nat} {w0 w : World} {B : Fr}
theorem RelL.mono {σ' : Sg} {l : List AV} {vs : List Value} (hr : RelL σ l vs) (hs : Sub σ σ') : RelL σ' l vs := ⟨hr.1,fun i a v ha hv => (hr.2 i a v ha hv).mono hs⟩
theorem RelL.app {l l' : List AV} {vs vs' : List Value} (h1 : RelL σ l vs) (h2 : RelL σ l' vs') : RelL σ (l ++ l') (vs ++ vs') := by
 refine ⟨by simp [h1.1,h2.1],fun i a v ha hv => ?_⟩
 by_cases hi : i < l.length
 ·rw [List.getElem?_append_left hi] at ha
  rw [List.getElem?_append_left (by rw [← h1.1]; exact hi)] at hv
  exact h1.2 i a v ha hv
 ·rw [List.getElem?_append_right (by omega)] at ha
  rw [List.getElem?_append_right (by rw [← h1.1]; omega),← h1.1] at hv
  exact h2.2 _ a v ha hv
theorem map_relL {ρ : Operand → AV} {ev : Operand → Value} (hρ : ∀ x,Rel σ (ρ x) (ev x)) (xs : List Operand) : RelL σ (xs.map ρ) (xs.map ev) := by
 refine ⟨by simp,fun i a v ha hv => ?_⟩
 simp only [List.getElem?_map,Option.map_eq_some_iff] at ha hv
 obtain ⟨x,h1,rfl⟩ := ha
 obtain ⟨y,h2,rfl⟩ := hv
 rw [h1] at h2; simp only [Option.some.injEq] at h2; subst h2
 exact hρ x
def fen (ro : Option Nat) : Fence := { Fence.wide with round := ro }
def CalleeOk (P : Program) (σ : Sg) (code : Nat) (vs : List Value) (w : World) (R : Ending → World → Prop) : Prop :=
 if code % 2 = 0 then (∃ fn c,P.funcs[code / 2]? = some fn ∧ (fn.name == "runtime.NumGoroutine") = false ∧ fn.body = some c) ∧ Calls P (code / 2) vs.toArray w R
 else ∀ r base size,σ (code / 2) = some (r,base,size) → ∃ f tmps assign body,(Instr.yield r vs.toArray).run P w = .ok (.round r f tmps assign body) w ∧ RoundIn Fence.wide 0 P r f tmps assign body w R
theorem semAt_run {ro : Option Nat} {ev : Operand → Value} {o : Oper} {x : Next} {w' : World} (h : (execOp ev o).run P w = .ok x w') (hx : ∀ d,x ≠ .defer d) : (o.semAt ro ev).run P w = .ok x w' := by
 rw [Oper.semAt_eq]
 ·exact h
 ·intro c hc
  obtain ⟨dst,op,oty,pos,after,guard⟩ := o
  simp only at hc
  subst hc
  simp only [execOp,Sem.run_bind] at h
  cases hr : (resolve ev c oty).run P w with
  | ok d w1 =>
   simp only [hr,Result.andThen_ok,Sem.run_pure,Result.ok.injEq] at h
   exact hx d h.1.symm
  | halt z w1 => simp [hr] at h
theorem wpIn_value {ro : Option Nat} {a : Act} {o : Oper} {v : Value} {w' : World} {next : Act → World → Prop} {Q : Exit → Act → World → Prop} (h : (execOp a.eval o).run P w = .ok (.value v) w') (hn : next (a.put o.dst v) w') : o.wpIn (fen ro) 0 P a w next Q := by
 refine ⟨fun _ _ => trivial,?_⟩
 rw [semAt_run h (fun d hd => by cases hd)]
 exact hn
theorem wpIn_skipOp {ro : Option Nat} {a : Act} {o : Oper} {w' : World} {next : Act → World → Prop} {Q : Exit → Act → World → Prop} (h : (execOp a.eval o).run P w = .ok .skip w') (hn : next (a.put o.dst Go.undef) w') : o.wpIn (fen ro) 0 P a w next Q := by
 refine ⟨fun _ _ => trivial,?_⟩
 rw [semAt_run h (fun d hd => by cases hd)]
 exact hn
theorem wpIn_callOp {ro : Option Nat} {a : Act} {ρ : Operand → AV} {o : Oper} {code : Nat} {args : List AV} (hρ : ∀ x,Rel σ (ρ x) (a.eval x)) (hc : acallee ρ o = some (code,args)) {R : Ending → World → Prop}
  (hk : ∀ vs,RelL σ args vs → CalleeOk P σ code vs w R) {next : Act → World → Prop} {Q : Exit → Act → World → Prop} (hR : ∀ e w',R e w' → ∃ v',e = .returned v' ∧ next (a.put o.dst v') w') : o.wpIn (fen ro) 0 P a w next Q := by
 obtain ⟨dst,op,oty,pos,after,guard⟩ := o
 refine ⟨fun _ _ => trivial,?_⟩
 unfold acallee at hc
 dsimp only at hc
 split at hc
 ·rename_i g xs tys
  split at hc
  ·rename_i f' first caps he
   simp only [Option.some.injEq,Prod.mk.injEq] at hc
   obtain ⟨rfl,rfl⟩ := hc
   have hg := hρ g
   rw [he] at hg
   generalize hgv : a.eval g = gv at hg
   cases hg with
   | fn _ _ _ ys zs h1 h2 h3 h4 =>
   have hrel : RelL σ (toList first ++ (xs.toList.map ρ ++ toList caps)) (ys.toList ++ (xs.toList.map a.eval ++ zs.toList)) :=
    RelL.app ⟨by simpa using h1,fun i a v ha hv => h3 i a v ha (by simpa using hv)⟩ (RelL.app (map_relL hρ _) ⟨by simpa using h2,fun i a v ha hv => h4 i a v ha (by simpa using hv)⟩)
   have hk := hk _ hrel
   unfold CalleeOk at hk
   rw [if_pos (by omega),show 2 * f' / 2 = f' by omega] at hk
   obtain ⟨⟨fn,c,c1,c2,c3⟩,hcall⟩ := hk
   have hrun : (execOp a.eval ⟨dst,.call ⟨.value g,xs,tys⟩,oty,pos,after,guard⟩).run P w = .ok (.enter f' (ys.toList ++ (xs.toList.map a.eval ++ zs.toList)).toArray) w := by
    have e : ys ++ xs.map a.eval ++ zs = (ys.toList ++ (xs.toList.map a.eval ++ zs.toList)).toArray := by
     apply Array.ext'
     simp
    simp only [execOp,resolve,hgv,Deferred.ofValue,Sem.run_bind,Sem.run_pure,Result.andThen_ok,invoke]
    rw [e]
    exact K.run_callFunc c1 c2 c3
   rw [semAt_run hrun (fun d hd => by cases hd),Oper.uponIn_enter]
   refine ⟨fun h => (by cases h),?_⟩
   have h1 : CallsIn Fence.wide 0 P f' _ w R := callsIn_wide.2 hcall
   have h2 : CallsIn (fen ro) 0 P f' _ w R := h1
   refine h2.mono fun e w' he => ?_
   obtain ⟨v',rfl,hn⟩ := hR e w' he
   exact hn
  ·rename_i b he
   simp only [Option.some.injEq,Prod.mk.injEq] at hc
   obtain ⟨rfl,rfl⟩ := hc
   have hg := hρ g
   rw [he] at hg
   generalize hgv : a.eval g = gv at hg
   cases hg with
   | yld _ r base size hs =>
   have hk := hk _ (map_relL hρ xs.toList)
   unfold CalleeOk at hk
   rw [if_neg (by omega),show (2 * b + 1) / 2 = b by omega] at hk
   obtain ⟨f,tmps,assign,body,h1,h2⟩ := hk r base size hs
   have hrun : (execOp a.eval ⟨dst,.call ⟨.value g,xs,tys⟩,oty,pos,after,guard⟩).run P w = .ok (.round r f tmps assign body) w := by
    have e : xs.map a.eval = (xs.toList.map a.eval).toArray := by
     apply Array.ext'
     simp
    simp only [execOp,resolve,hgv,Deferred.ofValue,Sem.run_bind,Sem.run_pure,Result.andThen_ok,invoke]
    simp
    rw [e]
    exact h1
   rw [semAt_run hrun (fun d hd => by cases hd),Oper.uponIn_round]
   refine ⟨fun h => (by cases h),?_⟩
   have h3 : RoundIn (fen ro) 0 P r f tmps assign body w R := h2
   refine h3.mono fun e w' he => ?_
   obtain ⟨v',rfl,hn⟩ := hR e w' he
   exact hn
  ·cases hc
 ·cases hc
theorem astep_ok {ρ : Operand → AV} {ev : Operand → Value} {o : Oper} {a h' : AV} {nx' : Nat} (H : HS σ h nx w0 B w) (hfv : ∀ f,ev (.func f) = .func (.func f) #[] #[]) (hρ : ∀ x,Rel σ (ρ x) (ev x)) (ha : astep P ρ h nx o = some (.val a h' nx')) :
  StepOk P σ h nx w0 B w (execOp ev o) a h' nx' := by
 unfold astep at ha
 split at ha
 ·rename_i v hv
  simp only [Option.some.injEq,SR.val.injEq] at ha
  obtain ⟨rfl,rfl,rfl⟩ := ha
  obtain ⟨u,h1,h2⟩ := apure_ok (P := P) (w := w) hρ hv
  exact ⟨σ,u,w,SubX.refl nx σ,Dk.refl nx h,Nat.le_refl _,.inl h2,h1,H⟩
 ·split at ha
  ·rename_i v hv
   simp only [Option.some.injEq,SR.val.injEq] at ha
   obtain ⟨rfl,rfl,rfl⟩ := ha
   obtain ⟨u,h1,h2⟩ := aread_ok (P := P) H hρ hv
   exact ⟨σ,u,w,SubX.refl nx σ,Dk.refl nx h,Nat.le_refl _,.inl h2,h1,H⟩
  ·split at ha
   ·rename_i nv x hv
    cases hb : Nat.blt nx (2 ^ HD) with
    | false => simp [hb] at ha
    | true =>
     simp only [hb,cond_true,Option.some.injEq,SR.val.injEq] at ha
     obtain ⟨rfl,rfl,rfl⟩ := ha
     obtain ⟨p,u,w',h1,h2,h3⟩ := anew_ok (P := P) H (blt_iff.1 hb) hρ hv
     exact ⟨_,u,w',H.subX p,dkNew (blt_iff.1 hb),Nat.le_succ _,.inl h1,h2,h3⟩
   ·split at ha
    ·rename_i v h1 nx1 hv
     simp only [Option.some.injEq,SR.val.injEq] at ha
     obtain ⟨rfl,rfl,rfl⟩ := ha
     exact aeff_ok H hfv hρ hv
    ·split at ha
     ·cases ha
     ·cases ha
theorem astep_call {ρ : Operand → AV} {o : Oper} {f : Nat} {args : List AV} (ha : astep P ρ h nx o = some (.call f args)) : acallee ρ o = some (f,args) := by
 unfold astep at ha
 split at ha
 ·cases ha
 ·split at ha
  ·cases ha
  ·split at ha
   ·rename_i nv x hv
    cases hb : Nat.blt nx (2 ^ HD) <;> simp [hb] at ha
   ·split at ha
    ·cases ha
    ·split at ha
     ·rename_i f' args' hc
      simp only [Option.some.injEq,SR.call.injEq] at ha
      obtain ⟨rfl,rfl⟩ := ha
      exact hc
     ·cases ha
end
end I
end Go.Proofs.YtojefiolcedigaaGreatDoor
