/- Arguments opened: slices of arrays of bytes, of truth values, of texts, of bytes. -/
import Derived.Test.YtaggpgnijnjedaaOpen
import Derived.ChangeArms
namespace Go.Proofs.Ytaggpgnijnjedaa
namespace K
open Go.ChangeShapes Go.WideShapes

theorem InS.more {R R' : List (Nat × Obj)} {la : Option Addr} {k : Nat} {f g : Nat → Value} (h : InS R la k f) (hR : ∀ x ∈ R, x ∈ R') (hf : ∀ j, j < k → f j = g j) : InS R' la k g := by
  intro hk
  obtain ⟨b, off, cs, t, fr, h1, h2, h3⟩ := h hk
  exact ⟨b, off, cs, t, fr, h1, hR _ h2, fun j hj => by rw [h3 j hj, hf j hj]⟩

theorem Has.app {w : World} {R R' : List (Nat × Obj)} (h : Has w R) (h' : Has w R') : Has w (R ++ R') := by
  intro x hx
  rcases List.mem_append.1 hx with hx | hx
  · exact h x hx
  · exact h' x hx

section
variable {H : Type} {enc : TypeId × Value → H} {P : Program} {w : World} {base : Nat} {held : Bool}

/-- A slice of arrays of m bytes. -/
theorem open_digs {r : Reach} {b0 : Nat} {t e f : TypeId} {m : Nat} {v : Value} {d : DataW H} {p : List MemPlace} (ht : P.underlying t = some (.slice e)) (he : P.underlying e = some (.array m f)) (hf : P.underlying f = some (.int .u8)) (hcf : P.cellsOf f = 1) (hce : P.cellsOf e = m) (hz : 0 < m) (hv : Value.okWide P w r b0 t v) (h : DataW.Trod enc P w base (fun _ => true) held t v d p) :
    ∃ (la : Option Addr) (cap : Nat) (ds : List (List UInt8)) (Rl : List (Nat × Obj)), v = .slice la ds.length cap ∧ ds.length ≤ cap ∧ cap ≤ maxLen ∧ (la = none → ds.length = 0 ∧ cap = 0) ∧ (∀ i, i < ds.length → (ds.getD i []).length = m) ∧ Has w Rl ∧
      InS Rl la (ds.length * m) (fun j => .int .u8 (((ds.getD (j / m) []).getD (j % m) 0).toNat : Int)) := by
  obtain ⟨la, n, cap, L, Rl, rfl, hn, hc, hm, hno, hel, hR, hI⟩ := open_in ht hce hz hv h
  have hget : ∀ i, (L.map (List.map toB)).getD i [] = (L.getD i []).map toB := by
    intro i
    simp only [List.getD_eq_getElem?_getD, List.getElem?_map]
    cases L[i]? <;> rfl
  have hlen : (L.map (List.map toB)).length = n := by rw [List.length_map, hn]
  refine ⟨la, cap, L.map (List.map toB), Rl, by rw [hlen], by omega, hm, by rw [hlen]; exact hno, ?_, hR, ?_⟩
  · intro i hi
    rw [hget, List.length_map]
    exact (hel i (by omega)).1
  · rw [hlen]
    refine hI.more (fun _ hx => hx) fun j hj => ?_
    have hq : j / m < n := Nat.div_lt_of_lt_mul (by rw [Nat.mul_comm]; exact hj)
    have hr : j % m < m := Nat.mod_lt _ hz
    obtain ⟨h1, fuel, y, h2⟩ := hel _ hq
    obtain ⟨h3, h4⟩ := trod_bytes he hf hcf hce h2
    rw [hget]
    have h5 := bv_get h3 hr
    rw [← h4] at h5
    simp only [List.getElem?_toArray] at h5
    rw [List.getD_eq_getElem?_getD, h5]
    rfl

/-- A slice of truth values. -/
theorem open_bools {r : Reach} {b0 : Nat} {t e : TypeId} {v : Value} {d : DataW H} {p : List MemPlace} (ht : P.underlying t = some (.slice e)) (he : P.underlying e = some .bool) (hce : P.cellsOf e = 1) (hv : Value.okWide P w r b0 t v) (h : DataW.Trod enc P w base (fun _ => true) held t v d p) :
    ∃ (la : Option Addr) (cap : Nat) (ks : List Bool) (Rl : List (Nat × Obj)), v = .slice la ks.length cap ∧ ks.length ≤ cap ∧ cap ≤ maxLen ∧ (la = none → ks.length = 0 ∧ cap = 0) ∧ Has w Rl ∧ InS Rl la ks.length (fun j => .bool (ks.getD j false)) := by
  obtain ⟨la, n, cap, L, Rl, rfl, hn, hc, hm, hno, hel, hR, hI⟩ := open_in ht hce (by omega) hv h
  have hlen : (L.map fun cs => match cs with | [.bool b] => b | _ => false).length = n := by rw [List.length_map, hn]
  refine ⟨la, cap, L.map fun cs => match cs with | [.bool b] => b | _ => false, Rl, by rw [hlen], by omega, hm, by rw [hlen]; exact hno, hR, ?_⟩
  rw [hlen]
  rw [Nat.mul_one] at hI
  refine hI.more (fun _ hx => hx) fun j hj => ?_
  obtain ⟨h1, fuel, y, h2⟩ := hel j hj
  obtain ⟨b, hb, _⟩ := DataW.trod_bool he h2
  have hL : L[j]? = some [.bool b] := by
    rw [List.getElem?_eq_getElem (by omega)]
    rw [List.getD_eq_getElem?_getD, List.getElem?_eq_getElem (by omega)] at hb
    exact congrArg some hb
  simp [List.getD_eq_getElem?_getD, Nat.mod_one, hL]

/-- A slice of texts. -/
theorem open_texts {r : Reach} {b0 : Nat} {t e : TypeId} {v : Value} {d : DataW H} {p : List MemPlace} (ht : P.underlying t = some (.slice e)) (he : P.underlying e = some .string) (hce : P.cellsOf e = 1) (hv : Value.okWide P w r b0 t v) (h : DataW.Trod enc P w base (fun _ => true) held t v d p) :
    ∃ (la : Option Addr) (cap : Nat) (ks : List ByteArray) (Rl : List (Nat × Obj)), v = .slice la ks.length cap ∧ ks.length ≤ cap ∧ cap ≤ maxLen ∧ (la = none → ks.length = 0 ∧ cap = 0) ∧ (∀ s ∈ ks, s.size ≤ maxLen) ∧ Has w Rl ∧ InS Rl la ks.length (fun j => .string (ks.getD j ByteArray.empty)) := by
  obtain ⟨la, n, cap, L, Rl, rfl, hn, hc, hm, hno, hel, hR, hI⟩ := open_in ht hce (by omega) hv h
  have hlen : (L.map fun cs => match cs with | [.string b] => b | _ => ByteArray.empty).length = n := by rw [List.length_map, hn]
  have hat : ∀ j, j < n → ∃ s : ByteArray, L[j]? = some [.string s] ∧ s.size ≤ maxLen := by
    intro j hj
    obtain ⟨h1, fuel, y, h2⟩ := hel j hj
    obtain ⟨b, hb, _, hs⟩ := DataW.trod_string he h2
    refine ⟨b, ?_, hs⟩
    rw [List.getElem?_eq_getElem (by omega)]
    rw [List.getD_eq_getElem?_getD, List.getElem?_eq_getElem (by omega)] at hb
    exact congrArg some hb
  refine ⟨la, cap, L.map fun cs => match cs with | [.string b] => b | _ => ByteArray.empty, Rl, by rw [hlen], by omega, hm, by rw [hlen]; exact hno, ?_, hR, ?_⟩
  · intro s hs
    obtain ⟨i, hi, rfl⟩ := List.getElem_of_mem hs
    rw [hlen] at hi
    obtain ⟨s, hL, hsz⟩ := hat i hi
    have : (L.map fun cs => match cs with | [.string b] => b | _ => ByteArray.empty)[i]? = some s := by rw [List.getElem?_map, hL]; rfl
    rw [List.getElem?_eq_getElem (by omega)] at this
    rw [Option.some.inj this]; exact hsz
  rw [hlen]
  rw [Nat.mul_one] at hI
  refine hI.more (fun _ hx => hx) fun j hj => ?_
  obtain ⟨b, hL, _⟩ := hat j hj
  simp [List.getD_eq_getElem?_getD, Nat.mod_one, hL]

/-- A slice of bytes. -/
theorem open_u8s {r : Reach} {b0 : Nat} {t e : TypeId} {v : Value} {d : DataW H} {p : List MemPlace} (ht : P.underlying t = some (.slice e)) (he : P.underlying e = some (.int .u8)) (hce : P.cellsOf e = 1) (hv : Value.okWide P w r b0 t v) (h : DataW.Trod enc P w base (fun _ => true) held t v d p) :
    ∃ (la : Option Addr) (cap : Nat) (ks : List UInt8) (Rl : List (Nat × Obj)), v = .slice la ks.length cap ∧ ks.length ≤ cap ∧ cap ≤ maxLen ∧ (la = none → ks.length = 0 ∧ cap = 0) ∧ Has w Rl ∧ InS Rl la ks.length (fun j => .int .u8 ((ks.getD j 0).toNat : Int)) := by
  obtain ⟨la, n, cap, L, Rl, rfl, hn, hc, hm, hno, hel, hR, hI⟩ := open_in ht hce (by omega) hv h
  have hlen : (L.map fun cs => match cs with | [c] => toB c | _ => 0).length = n := by rw [List.length_map, hn]
  refine ⟨la, cap, L.map fun cs => match cs with | [c] => toB c | _ => 0, Rl, by rw [hlen], by omega, hm, by rw [hlen]; exact hno, hR, ?_⟩
  rw [hlen]
  rw [Nat.mul_one] at hI
  refine hI.more (fun _ hx => hx) fun j hj => ?_
  obtain ⟨h1, fuel, y, h2⟩ := hel j hj
  obtain ⟨n', hb, _⟩ := DataW.trod_int he h2
  rw [hb] at h2
  have h6 := trod_u8 he h2
  have hL : L[j]? = some [.int .u8 n'] := by
    rw [List.getElem?_eq_getElem (by omega)]
    rw [List.getD_eq_getElem?_getD, List.getElem?_eq_getElem (by omega)] at hb
    exact congrArg some hb
  simp only [List.getD_eq_getElem?_getD, Nat.mod_one, Nat.div_one, hL, List.getElem?_map, Option.map_some, Option.getD_some]
  exact h6
end
end K
end Go.Proofs.Ytaggpgnijnjedaa
