/- refs: rows of refs as cells. -/
import Derived.Test.YtejgpniaoccpoaaChecked
import Derived.Test.YtejgpniaoccpoaaK20
namespace Go.Proofs.Ytejgpniaoccpoaa
open K
set_option linter.unusedVariables false

/-- A ref: its name, its 32 bytes; a row of refs as cells. -/
abbrev Rf := ByteArray × List UInt8
def rz : Rf := (ByteArray.empty, List.replicate 32 0)
def rc (r : Rf) : List Value := .string r.1 :: (bv r.2).toList
def rv (l : List Rf) : List Value := l.flatMap rc
def W32 (l : List Rf) : Prop := ∀ r ∈ l, r.2.length = 32
theorem rc_len {r : Rf} (h : r.2.length = 32) : (rc r).length = 33 := by unfold rc; rw [List.length_cons, Array.length_toList, bv_size, h]
theorem W32.tail {r : Rf} {l : List Rf} (h : W32 (r :: l)) : W32 l := fun x hx => h x (List.mem_cons_of_mem _ hx)
theorem W32.nil : W32 [] := fun _ h => by cases h
theorem W32.app {a b : List Rf} (ha : W32 a) (hb : W32 b) : W32 (a ++ b) := fun x hx => (List.mem_append.1 hx).elim (ha x) (hb x)
theorem W32.take {l : List Rf} (h : W32 l) (i : Nat) : W32 (l.take i) := fun x hx => h x (List.mem_of_mem_take hx)
theorem W32.drop {l : List Rf} (h : W32 l) (i : Nat) : W32 (l.drop i) := fun x hx => h x (List.mem_of_mem_drop hx)
theorem W32.one {r : Rf} (h : r.2.length = 32) : W32 [r] := fun x hx => by rw [List.mem_singleton.1 hx]; exact h
theorem W32.at {l : List Rf} (h : W32 l) (i : Nat) : (l.getD i rz).2.length = 32 := by
  rw [List.getD_eq_getElem?_getD]
  by_cases hi : i < l.length
  · rw [List.getElem?_eq_getElem hi]; exact h _ (List.getElem_mem hi)
  · rw [List.getElem?_eq_none (by omega)]; rfl
theorem rv_cons (r : Rf) (l : List Rf) : rv (r :: l) = rc r ++ rv l := rfl
theorem rv_app (a b : List Rf) : rv (a ++ b) = rv a ++ rv b := by simp [rv]
theorem rv_one (r : Rf) : rv [r] = rc r := by simp [rv]
theorem rv_len {l : List Rf} (h : W32 l) : (rv l).length = l.length * 33 := by
  induction l with
  | nil => rfl
  | cons r l ih => rw [rv_cons, List.length_append, rc_len (h r (List.mem_cons_self ..)), ih h.tail, List.length_cons]; omega
theorem rc_all (r : Rf) : ∀ v ∈ rc r, one v = true := by
  intro v hv
  rcases List.mem_cons.1 hv with rfl | hv
  · rfl
  · exact all_bv _ v hv
theorem rv_all (l : List Rf) : ∀ v ∈ rv l, one v = true := by
  intro v hv
  obtain ⟨r, _, h⟩ := List.mem_flatMap.1 hv
  exact rc_all r v h
theorem rv_get {l : List Rf} (h : W32 l) : ∀ {i j : Nat}, i < l.length → j < 33 → (rv l)[i * 33 + j]? = (rc (l.getD i rz))[j]? := by
  induction l with
  | nil => intro i j hi; simp at hi
  | cons r l ih =>
    intro i j hi hj
    have hr := rc_len (h r (List.mem_cons_self ..))
    rw [rv_cons]
    cases i with
    | zero => rw [Nat.zero_mul, Nat.zero_add, List.getElem?_append_left (by omega)]; rfl
    | succ i =>
      rw [List.getElem?_append_right (by omega), hr, show (i + 1) * 33 + j - 33 = i * 33 + j by omega]
      exact ih h.tail (by simpa using hi) hj
theorem rc_some {r : Rf} {j : Nat} {v : Value} (h : r.2.length = 32) (hv : (rc r)[j]? = some v) : j < 33 := by
  have := (List.getElem?_eq_some_iff.1 hv).1
  rw [rc_len h] at this; exact this
theorem ref_cell {l : List Rf} {cs : Array Value} {off i : Nat} (hW : W32 l) (hcs : ∀ j, j < l.length * 33 → cs[off + j]? = some ((rv l).getD j undef)) (hi : i < l.length) {j : Nat} {v : Value} (hv : (rc (l.getD i rz))[j]? = some v) : cs[off + i * 33 + j]? = some v := by
  have hj := rc_some (hW.at i) hv
  rw [Nat.add_assoc, hcs (i * 33 + j) (by omega), List.getD_eq_getElem?_getD, rv_get hW hi hj, hv]; rfl
theorem ref_byte {l : List Rf} {cs : Array Value} {off i : Nat} (hW : W32 l) (hcs : ∀ j, j < l.length * 33 → cs[off + j]? = some ((rv l).getD j undef)) (hi : i < l.length) {j : Nat} (hj : j < 32) : cs[off + i * 33 + 1 + j]? = some (.int .u8 (((l.getD i rz).2.getD j 0).toNat : Int)) := by
  have h1 : (rc (l.getD i rz))[1 + j]? = some (.int .u8 (((l.getD i rz).2.getD j 0).toNat : Int)) := by
    rw [show 1 + j = j + 1 by omega]
    show (bv (l.getD i rz).2).toList[j]? = _
    rw [Array.getElem?_toList]; exact bv_get (hW.at i) hj
  rw [Nat.add_assoc (off + i * 33)]
  exact ref_cell hW hcs hi h1
/-- A row that came in. -/
def InR (Rl : List (Nat × Obj)) (la : Option Addr) (l : List Rf) : Prop := InS Rl la (l.length * 33) (fun j => (rv l).getD j undef)
theorem InR.mono {Rl Rl' : List (Nat × Obj)} {la : Option Addr} {l : List Rf} (h : InR Rl la l) (hR : ∀ e ∈ Rl, e ∈ Rl') : InR Rl' la l := InS.mono h hR
theorem InR.nil (Rl : List (Nat × Obj)) (la : Option Addr) : InR Rl la [] := fun h => absurd h (Nat.lt_irrefl 0)
theorem inR_own {o : K.Own} {e : TypeId} {l : List Rf} (hok : OwnOk o 33 l.length (rv l)) : InR (o.o e (rv l)) o.a l := by
  intro hn
  obtain ⟨p, rfl⟩ := own_some hok (by omega)
  refine ⟨p.1, 0, _, e, (0, 0), rfl, List.mem_cons_self .., fun j hj => ?_⟩
  have hl := hok.len
  rw [Nat.zero_add]
  simp only [List.getElem?_toArray]
  rw [List.getElem?_append_left (by omega), List.getD_eq_getElem?_getD, List.getElem?_eq_getElem (by omega)]; rfl
def pEq (n : ByteArray) (r : Rf) : Bool := r.1.toList == n.toList
def pGt (x : Rf) (r : Rf) : Bool := !(Op.bytesLess r.1.toList x.1.toList || r.1.toList == x.1.toList)
/-- The first place at which p holds; -1: none. -/
def fidx (p : Rf → Bool) (l : List Rf) : Int := match l.findIdx? p with | none => -1 | some i => (i : Int)
theorem fidx_at {p : Rf → Bool} {l : List Rf} {i : Nat} (hi : i < l.length) (h : ∀ j, j < i → p (l.getD j rz) = false) (hp : p (l.getD i rz) = true) : fidx p l = (i : Int) := by
  unfold fidx
  have : l.findIdx? p = some i := by
    rw [List.findIdx?_eq_some_iff_getElem]
    refine ⟨hi, ?_, fun j hj => ?_⟩
    · have := hp; rw [List.getD_eq_getElem?_getD, List.getElem?_eq_getElem hi] at this; exact this
    · have := h j hj; rw [List.getD_eq_getElem?_getD, List.getElem?_eq_getElem (by omega)] at this; simpa using this
  rw [this]
theorem fidx_none {p : Rf → Bool} {l : List Rf} (h : ∀ j, j < l.length → p (l.getD j rz) = false) : fidx p l = -1 := by
  unfold fidx
  have : l.findIdx? p = none := by
    rw [List.findIdx?_eq_none_iff]
    intro x hx
    obtain ⟨i, hi, rfl⟩ := List.mem_iff_getElem.1 hx
    have := h i hi; rw [List.getD_eq_getElem?_getD, List.getElem?_eq_getElem hi] at this; exact this
  rw [this]
theorem fidx_cases (p : Rf → Bool) (l : List Rf) : (fidx p l = -1 ∧ ∀ r ∈ l, p r = false) ∨ ∃ i : Nat, fidx p l = (i : Int) ∧ i < l.length ∧ p (l.getD i rz) = true ∧ ∀ j, j < i → p (l.getD j rz) = false := by
  unfold fidx
  cases h : l.findIdx? p with
  | none => exact .inl ⟨rfl, fun r hr => List.findIdx?_eq_none_iff.1 h r hr⟩
  | some i =>
    obtain ⟨hi, h1, h2⟩ := List.findIdx?_eq_some_iff_getElem.1 h
    refine .inr ⟨i, rfl, hi, ?_, fun j hj => ?_⟩
    · rw [List.getD_eq_getElem?_getD, List.getElem?_eq_getElem hi]; exact h1
    · rw [List.getD_eq_getElem?_getD, List.getElem?_eq_getElem (by omega)]; simpa using h2 j hj
/-- Where a name is; the zero digest: nowhere. -/
def atF (l : List Rf) (n : ByteArray) : List UInt8 := if fidx (pEq n) l < 0 then List.replicate 32 0 else (l.getD (fidx (pEq n) l).toNat rz).2
theorem atF_len {l : List Rf} (h : W32 l) (n : ByteArray) : (atF l n).length = 32 := by
  unfold atF; split
  · rfl
  · exact h.at _
theorem fidx_lt (p : Rf → Bool) (l : List Rf) : -1 ≤ fidx p l ∧ fidx p l < (l.length : Int) := by
  rcases fidx_cases p l with ⟨h, _⟩ | ⟨i, h, h1, _⟩ <;> omega
theorem zsz33 : (bv (List.replicate 32 0)).size = 32 := rfl

end Go.Proofs.Ytejgpniaoccpoaa
