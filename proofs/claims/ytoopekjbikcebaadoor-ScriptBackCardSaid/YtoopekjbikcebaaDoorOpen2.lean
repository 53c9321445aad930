/- Arguments opened: slices of arrays of bytes, of truth values, of texts, of bytes. -/
import Derived.Test.YtoopekjbikcebaaDoorOpen
import Derived.SizedLaws
import Derived.ChangeArms
namespace Go.Proofs.YtoopekjbikcebaaDoor
namespace K
open Go.ChangeShapes Go.WideShapes

theorem InS.more {R R' : List (Nat × Obj)} {la : Option Addr} {k : Nat} {f g : Nat → Value} (h : InS R la k f) (hR : ∀ x ∈ R, x ∈ R') (hf : ∀ j, j < k → f j = g j) : InS R' la k g := by
  intro hk
  obtain ⟨b, off, cs, t, fr, h1, h2, h3⟩ := h hk
  exact ⟨b, off, cs, t, fr, h1, hR _ h2, fun j hj => by rw [h3 j hj, hf j hj]⟩

theorem Has.app {w : World} {R R' : List (Nat × Obj)} (h : Has w R) (h' : Has w R') : Has w (R ++ R') := by
  intro x hx
  rcases List.mem_append.1 hx with hx | hx
  · exact h x hx
  · exact h' x hx

section
variable {H : Type} {enc : TypeId × Value → H} {P : Program} {w : World} {base : Nat} {held : Bool}

/-- A slice of arrays of m bytes. -/
theorem open_digs {r : Reach} {b0 : Nat} {t e f : TypeId} {m : Nat} {v : Value} {d : DataW H} {p : List MemPlace} (ht : P.underlying t = some (.slice e)) (he : P.underlying e = some (.array m f)) (hf : P.underlying f = some (.int .u8)) (hcf : P.cellsOf f = 1) (hce : P.cellsOf e = m) (hz : 0 < m) (hv : Value.okWide P w r b0 t v) (h : DataW.Trod enc P w base (fun _ => true) held t v d p) :
    ∃ (la : Option Addr) (cap : Nat) (ds : List (List UInt8)) (Rl : List (Nat × Obj)), v = .slice la ds.length cap ∧ ds.length ≤ cap ∧ cap ≤ maxLen ∧ (la = none → ds.length = 0 ∧ cap = 0) ∧ (∀ i, i < ds.length → (ds.getD i []).length = m) ∧ Has w Rl ∧
      InS Rl la (ds.length * m) (fun j => .int .u8 (((ds.getD (j / m) []).getD (j % m) 0).toNat : Int)) := by
  obtain ⟨la, n, cap, L, Rl, rfl, hn, hc, hm, hno, hel, hR, hI⟩ := open_in ht hce hz hv h
  have hget : ∀ i, (L.map (List.map toB)).getD i [] = (L.getD i []).map toB := by
    intro i
    simp only [List.getD_eq_getElem?_getD, List.getElem?_map]
    cases L[i]? <;> rfl
  have hlen : (L.map (List.map toB)).length = n := by rw [List.length_map, hn]
  refine ⟨la, cap, L.map (List.map toB), Rl, by rw [hlen], by omega, hm, by rw [hlen]; exact hno, ?_, hR, ?_⟩
  · intro i hi
    rw [hget, List.length_map]
    exact (hel i (by omega)).1
  · rw [hlen]
    refine hI.more (fun _ hx => hx) fun j hj => ?_
    have hq : j / m < n := Nat.div_lt_of_lt_mul (by rw [Nat.mul_comm]; exact hj)
    have hr : j % m < m := Nat.mod_lt _ hz
    obtain ⟨h1, fuel, y, h2⟩ := hel _ hq
    obtain ⟨h3, h4⟩ := trod_bytes he hf hcf hce h2
    rw [hget]
    have h5 := bv_get h3 hr
    rw [← h4] at h5
    simp only [List.getElem?_toArray] at h5
    rw [List.getD_eq_getElem?_getD, h5]
    rfl

/-- A slice of truth values. -/
theorem open_bools {r : Reach} {b0 : Nat} {t e : TypeId} {v : Value} {d : DataW H} {p : List MemPlace} (ht : P.underlying t = some (.slice e)) (he : P.underlying e = some .bool) (hce : P.cellsOf e = 1) (hv : Value.okWide P w r b0 t v) (h : DataW.Trod enc P w base (fun _ => true) held t v d p) :
    ∃ (la : Option Addr) (cap : Nat) (ks : List Bool) (Rl : List (Nat × Obj)), v = .slice la ks.length cap ∧ ks.length ≤ cap ∧ cap ≤ maxLen ∧ (la = none → ks.length = 0 ∧ cap = 0) ∧ Has w Rl ∧ InS Rl la ks.length (fun j => .bool (ks.getD j false)) := by
  obtain ⟨la, n, cap, L, Rl, rfl, hn, hc, hm, hno, hel, hR, hI⟩ := open_in ht hce (by omega) hv h
  have hlen : (L.map fun cs => match cs with | [.bool b] => b | _ => false).length = n := by rw [List.length_map, hn]
  refine ⟨la, cap, L.map fun cs => match cs with | [.bool b] => b | _ => false, Rl, by rw [hlen], by omega, hm, by rw [hlen]; exact hno, hR, ?_⟩
  rw [hlen]
  rw [Nat.mul_one] at hI
  refine hI.more (fun _ hx => hx) fun j hj => ?_
  obtain ⟨h1, fuel, y, h2⟩ := hel j hj
  obtain ⟨b, hb, _⟩ := DataW.trod_bool he h2
  have hL : L[j]? = some [.bool b] := by
    rw [List.getElem?_eq_getElem (by omega)]
    rw [List.getD_eq_getElem?_getD, List.getElem?_eq_getElem (by omega)] at hb
    exact congrArg some hb
  simp [List.getD_eq_getElem?_getD, Nat.mod_one, hL]

/-- A slice of texts. -/
theorem open_texts {r : Reach} {b0 : Nat} {t e : TypeId} {v : Value} {d : DataW H} {p : List MemPlace} (ht : P.underlying t = some (.slice e)) (he : P.underlying e = some .string) (hce : P.cellsOf e = 1) (hv : Value.okWide P w r b0 t v) (h : DataW.Trod enc P w base (fun _ => true) held t v d p) :
    ∃ (la : Option Addr) (cap : Nat) (ks : List ByteArray) (Rl : List (Nat × Obj)), v = .slice la ks.length cap ∧ ks.length ≤ cap ∧ cap ≤ maxLen ∧ (la = none → ks.length = 0 ∧ cap = 0) ∧ (∀ s ∈ ks, s.size ≤ maxLen) ∧ Has w Rl ∧ InS Rl la ks.length (fun j => .string (ks.getD j ByteArray.empty)) := by
  obtain ⟨la, n, cap, L, Rl, rfl, hn, hc, hm, hno, hel, hR, hI⟩ := open_in ht hce (by omega) hv h
  have hlen : (L.map fun cs => match cs with | [.string b] => b | _ => ByteArray.empty).length = n := by rw [List.length_map, hn]
  have hat : ∀ j, j < n → ∃ s : ByteArray, L[j]? = some [.string s] ∧ s.size ≤ maxLen := by
    intro j hj
    obtain ⟨h1, fuel, y, h2⟩ := hel j hj
    obtain ⟨b, hb, _, hs⟩ := DataW.trod_string he h2
    refine ⟨b, ?_, hs⟩
    rw [List.getElem?_eq_getElem (by omega)]
    rw [List.getD_eq_getElem?_getD, List.getElem?_eq_getElem (by omega)] at hb
    exact congrArg some hb
  refine ⟨la, cap, L.map fun cs => match cs with | [.string b] => b | _ => ByteArray.empty, Rl, by rw [hlen], by omega, hm, by rw [hlen]; exact hno, ?_, hR, ?_⟩
  · intro s hs
    obtain ⟨i, hi, rfl⟩ := List.getElem_of_mem hs
    rw [hlen] at hi
    obtain ⟨s, hL, hsz⟩ := hat i hi
    have : (L.map fun cs => match cs with | [.string b] => b | _ => ByteArray.empty)[i]? = some s := by rw [List.getElem?_map, hL]; rfl
    rw [List.getElem?_eq_getElem (by omega)] at this
    rw [Option.some.inj this]; exact hsz
  rw [hlen]
  rw [Nat.mul_one] at hI
  refine hI.more (fun _ hx => hx) fun j hj => ?_
  obtain ⟨b, hL, _⟩ := hat j hj
  simp [List.getD_eq_getElem?_getD, Nat.mod_one, hL]

/-- A slice of bytes. -/
theorem open_u8s {r : Reach} {b0 : Nat} {t e : TypeId} {v : Value} {d : DataW H} {p : List MemPlace} (ht : P.underlying t = some (.slice e)) (he : P.underlying e = some (.int .u8)) (hce : P.cellsOf e = 1) (hv : Value.okWide P w r b0 t v) (h : DataW.Trod enc P w base (fun _ => true) held t v d p) :
    ∃ (la : Option Addr) (cap : Nat) (ks : List UInt8) (Rl : List (Nat × Obj)), v = .slice la ks.length cap ∧ ks.length ≤ cap ∧ cap ≤ maxLen ∧ (la = none → ks.length = 0 ∧ cap = 0) ∧ Has w Rl ∧ InS Rl la ks.length (fun j => .int .u8 ((ks.getD j 0).toNat : Int)) := by
  obtain ⟨la, n, cap, L, Rl, rfl, hn, hc, hm, hno, hel, hR, hI⟩ := open_in ht hce (by omega) hv h
  have hlen : (L.map fun cs => match cs with | [c] => toB c | _ => 0).length = n := by rw [List.length_map, hn]
  refine ⟨la, cap, L.map fun cs => match cs with | [c] => toB c | _ => 0, Rl, by rw [hlen], by omega, hm, by rw [hlen]; exact hno, hR, ?_⟩
  rw [hlen]
  rw [Nat.mul_one] at hI
  refine hI.more (fun _ hx => hx) fun j hj => ?_
  obtain ⟨h1, fuel, y, h2⟩ := hel j hj
  obtain ⟨n', hb, _⟩ := DataW.trod_int he h2
  rw [hb] at h2
  have h6 := trod_u8 he h2
  have hL : L[j]? = some [.int .u8 n'] := by
    rw [List.getElem?_eq_getElem (by omega)]
    rw [List.getD_eq_getElem?_getD, List.getElem?_eq_getElem (by omega)] at hb
    exact congrArg some hb
  simp only [List.getD_eq_getElem?_getD, Nat.mod_one, Nat.div_one, hL, List.getElem?_map, Option.map_some, Option.getD_some]
  exact h6

/-- How long a slice can be. -/
theorem slice_sized {r : Reach} {b0 : Nat} {ts : List TypeId} {ds : List (DataW H)} {t e : TypeId} {v : Value} {d : DataW H} {p : List MemPlace} (hz : (DataW.weightsEach P ts ds).all (· ≤ reachBytes) = true) {j m : Nat} (hj : ts[j]? = some t) (hd : ds[j]? = some d) (ht : P.underlying t = some (.slice e)) (hb : P.bytesOf e = m) (h0 : 0 < m) (hv : Value.okWide P w r b0 t v) (h : DataW.Trod enc P w base (fun _ => true) held t v d p) :
    ∀ la n cap, v = .slice la n cap → n ≤ 140737488355328 := by
  obtain ⟨a0, n0, c0, rfl⟩ := okWide_slice ht hv
  obtain ⟨fuel, hf⟩ := h
  intro la n cap hx
  simp only [Value.slice.injEq] at hx
  obtain ⟨rfl, rfl, rfl⟩ := hx
  rcases Go.Deep.open_slice ht hf with ⟨hc, _⟩ | ⟨a, len, cap, m', k, D, Pl, hc, _, hl, hm, hmm, hdx, _⟩
  · simp only [Value.cells, List.cons.injEq, Value.slice.injEq, and_true] at hc
    omega
  · simp only [Value.cells, List.cons.injEq, Value.slice.injEq, and_true] at hc
    obtain ⟨rfl, rfl, rfl⟩ := hc
    simp only [Prod.mk.injEq] at hdx
    rw [hdx.1] at hd
    have h1 := sized_slice hz hj hd ht
    rw [hb, List.length_map, List.length_range] at h1
    have h2 := reachBytes_lt
    have h3 : n0 * 1 ≤ (n0 + ((List.range (m' - n0)).map fun j => D (n0 + j)).length) * m := Nat.mul_le_mul (by omega) h0
    omega

/-- A slice of unsigned numbers. -/
theorem open_nats {r : Reach} {b0 : Nat} {t e : TypeId} {k : IntKind} {m : Nat} {v : Value} {d : DataW H} {p : List MemPlace} (ht : P.underlying t = some (.slice e)) (he : P.underlying e = some (.int k)) (hk : ∀ n, (Lit.int k n).wf = true → 0 ≤ n ∧ n < (m : Int)) (hm0 : 0 < m) (hce : P.cellsOf e = 1) (hv : Value.okWide P w r b0 t v) (h : DataW.Trod enc P w base (fun _ => true) held t v d p) :
    ∃ (la : Option Addr) (cap : Nat) (ks : List Nat) (Rl : List (Nat × Obj)), v = .slice la ks.length cap ∧ ks.length ≤ cap ∧ cap ≤ maxLen ∧ (la = none → ks.length = 0 ∧ cap = 0) ∧ (∀ i, ks.getD i 0 < m) ∧ Has w Rl ∧ InS Rl la ks.length (fun j => .int k ((ks.getD j 0 : Nat) : Int)) := by
  obtain ⟨la, n, cap, L, Rl, rfl, hn, hc, hm, hno, hel, hR, hI⟩ := open_in ht hce (by omega) hv h
  have hlen : (L.map fun cs => match cs with | [.int _ z] => z.toNat | _ => 0).length = n := by rw [List.length_map, hn]
  have hat : ∀ j, j < n → ∃ z : Int, L[j]? = some [.int k z] ∧ 0 ≤ z ∧ z < (m : Int) := by
    intro j hj
    obtain ⟨h1, fuel, y, h2⟩ := hel j hj
    obtain ⟨z, hb, _, hw⟩ := DataW.trod_int he h2
    refine ⟨z, ?_, hk z hw⟩
    rw [List.getElem?_eq_getElem (by omega)]
    rw [List.getD_eq_getElem?_getD, List.getElem?_eq_getElem (by omega)] at hb
    exact congrArg some hb
  refine ⟨la, cap, L.map fun cs => match cs with | [.int _ z] => z.toNat | _ => 0, Rl, by rw [hlen], by omega, hm, by rw [hlen]; exact hno, ?_, hR, ?_⟩
  · intro i
    rw [List.getD_eq_getElem?_getD, List.getElem?_map]
    by_cases hi : i < n
    · obtain ⟨z, hL, hz⟩ := hat i hi
      rw [hL]
      simp only [Option.map_some, Option.getD_some]
      omega
    · rw [List.getElem?_eq_none (by omega)]; exact hm0
  rw [hlen]
  rw [Nat.mul_one] at hI
  refine hI.more (fun _ hx => hx) fun j hj => ?_
  obtain ⟨z, hL, hz⟩ := hat j hj
  simp only [List.getD_eq_getElem?_getD, Nat.mod_one, Nat.div_one, hL, List.getElem?_map, Option.map_some, Option.getD_some]
  simp only [List.getElem?_cons_zero, Option.getD_some]
  congr 1
  omega
theorem wf_u32 (n : Int) (h : (Lit.int .u32 n).wf = true) : 0 ≤ n ∧ n < ((4294967296 : Nat) : Int) := by
  simp [Lit.wf, IntKind.min, IntKind.max, IntKind.signed, IntKind.bits] at h
  omega
theorem wf_u64 (n : Int) (h : (Lit.int .u64 n).wf = true) : 0 ≤ n ∧ n < ((18446744073709551616 : Nat) : Int) := by
  simp [Lit.wf, IntKind.min, IntKind.max, IntKind.signed, IntKind.bits] at h
  omega
end
end K
end Go.Proofs.YtoopekjbikcebaaDoor
