/- Arguments opened: what a reading says of arrays of bytes. -/
import Derived.Test.YtaggpgnijnjedaaK9
import Derived.ProofKit
import Derived.OpenShut
namespace Go.Proofs.Ytaggpgnijnjedaa
namespace K
open Go.ChangeShapes Go.WideShapes

section
variable {H : Type} {enc : TypeId × Value → H} {P : Program} {w : World} {base : Nat} {spare : Nat → Bool} {held : Bool}

theorem wf_u8 {n : Int} (h : (Lit.int .u8 n).wf = true) : 0 ≤ n ∧ n ≤ 255 := by
  simp [Lit.wf, IntKind.min, IntKind.max, IntKind.signed, IntKind.bits] at h
  omega

/-- The bytes that cells are. -/
def toB : Value → UInt8
  | .int _ n => UInt8.ofNat n.toNat
  | _ => 0

theorem trod_u8 {e : TypeId} {fuel : Nat} {v : Value} {x : DataW H × List MemPlace} (he : P.underlying e = some (.int .u8)) (h : DataW.trod enc P w base spare held fuel e [v] = some x) : v = .int .u8 ((toB v).toNat : Int) := by
  obtain ⟨n, hn, _, hw⟩ := DataW.trod_int he h
  simp only [List.cons.injEq, and_true] at hn
  subst hn
  have := wf_u8 hw
  simp only [toB, UInt8.toNat_ofNat']
  congr 1
  omega

/-- Cells that read as an array of bytes. -/
theorem trod_bytes {t e : TypeId} {n fuel : Nat} {cs : List Value} {x : DataW H × List MemPlace} (ht : P.underlying t = some (.array n e)) (he : P.underlying e = some (.int .u8)) (hce : P.cellsOf e = 1) (hct : P.cellsOf t = n)
    (h : DataW.trod enc P w base spare held fuel t cs = some x) : (cs.map toB).length = n ∧ cs.toArray = bv (cs.map toB) := by
  obtain ⟨xs, m, _, _, hl, hx, hi⟩ := DataW.trod_array ht h
  rw [hct] at hl
  refine ⟨by simpa using hl, ?_⟩
  apply Array.ext'
  simp only [bv, List.map_map]
  apply List.ext_getElem?
  intro i
  by_cases hlt : i < n
  · have h1 := hi i hlt
    rw [hce, Nat.mul_one, List.drop_eq_getElem_cons (by omega), List.take_succ_cons, List.take_zero] at h1
    have hxs : xs[i]? = some (xs[i]'(by omega)) := List.getElem?_eq_getElem (by omega)
    rw [hxs] at h1
    have h2 := trod_u8 he h1
    rw [List.getElem?_map, List.getElem?_eq_getElem (show i < cs.length by omega), Option.map_some, Function.comp]
    rw [← h2]
  · rw [List.getElem?_eq_none (by omega), List.getElem?_eq_none (by simp; omega)]

/-- An argument that is an array of bytes. -/
theorem open_bytes {r : Reach} {b0 : Nat} {t e : TypeId} {n : Nat} {v : Value} {d : DataW H} {p : List MemPlace} (ht : P.underlying t = some (.array n e)) (he : P.underlying e = some (.int .u8)) (hce : P.cellsOf e = 1) (hct : P.cellsOf t = n)
    (hv : Value.okWide P w r b0 t v) (h : DataW.Trod enc P w base spare held t v d p) : ∃ l : List UInt8, l.length = n ∧ v = .agg (bv l) := by
  unfold Value.okWide at hv
  rw [ht] at hv
  obtain ⟨cs, rfl, _, _⟩ := hv
  obtain ⟨fuel, hf⟩ := h
  obtain ⟨h1, h2⟩ := trod_bytes ht he hce hct hf
  simp only [Value.cells, Array.toArray_toList] at h1 h2
  exact ⟨_, h1, by rw [← h2]⟩

end
end K
end Go.Proofs.Ytaggpgnijnjedaa
