/- space: an argument that is runs, opened. -/
import Derived.Test.YtmkefcjphdaoiaaSp3
import Derived.Test.YtmkefcjphdaoiaaOpen2
import Derived.ChangeSame
namespace Go.Proofs.Ytmkefcjphdaoiaa
open K
set_option linter.unusedVariables false

open Go.ChangeShapes Go.WideShapes
theorem wf_i64 {n : Int} (h : (Lit.int .i64 n).wf = true) : I64 n := by
  simp [Lit.wf, IntKind.min, IntKind.max, IntKind.signed, IntKind.bits] at h
  exact ⟨by omega, by omega⟩
/-- A slice of pairs of numbers. -/
theorem open_runs {H : Type} {enc : TypeId × Value → H} {P : Program} {w : World} {base : Nat} {held : Bool} {r : Reach} {b0 : Nat} {t e u : TypeId} {f0 f1 : Field} {v : Value} {d : DataW H} {p : List MemPlace} (ht : P.underlying t = some (.slice e)) (he : P.underlying e = some (.struct #[f0, f1]))
    (h0 : f0.type = u ∧ f0.offset = 0) (h1 : f1.type = u ∧ f1.offset = 1) (hu : P.underlying u = some (.int .i64)) (hcu : P.cellsOf u = 1) (hce : P.cellsOf e = 2)
    (hv : Value.okWide P w r b0 t v) (h : DataW.Trod enc P w base (fun _ => true) held t v d p) :
    ∃ (la : Option Addr) (cap : Nat) (l : List (Int × Int)) (Rl : List (Nat × Obj)), v = .slice la l.length cap ∧ l.length ≤ cap ∧ cap ≤ maxLen ∧ (la = none → l.length = 0 ∧ cap = 0) ∧ (∀ i, I64 (ra l i) ∧ I64 (rl l i)) ∧ Has w Rl ∧ InS Rl la (2 * l.length) (rcell l) := by
  obtain ⟨la, n, cap, L, Rl, rfl, hn, hc, hm, hno, hel, hR, hI⟩ := open_in ht hce (by omega) hv h
  have hat : ∀ j, j < n → ∃ a b : Int, L[j]? = some [.int .i64 a, .int .i64 b] ∧ I64 a ∧ I64 b := by
    intro j hj
    obtain ⟨g1, fuel, y, g2⟩ := hel j hj
    have hL : L[j]? = some (L.getD j []) := by rw [List.getD_eq_getElem?_getD, List.getElem?_eq_getElem (by omega)]; rfl
    generalize L.getD j [] = c at g1 g2 hL
    match c, g1 with
    | [x0, x1], _ =>
      obtain ⟨y0, y1, m, _, _, e0, e1⟩ := trod_struct2 he g2
      rw [h0.1, h0.2, hcu] at e0
      rw [h1.1, h1.2, hcu] at e1
      obtain ⟨a, ha, _, wa⟩ := DataW.trod_int hu e0
      obtain ⟨b, hb, _, wb⟩ := DataW.trod_int hu e1
      simp at ha hb
      subst ha; subst hb
      exact ⟨a, b, hL, wf_i64 wa, wf_i64 wb⟩
  let G : List Value → Int × Int := fun cs => match cs with | [.int _ a, .int _ b] => (a, b) | _ => (0, 0)
  have hlen : (L.map G).length = n := by rw [List.length_map, hn]
  have hget : ∀ j a b, L[j]? = some [.int .i64 a, .int .i64 b] → (L.map G).getD j (0, 0) = (a, b) := by
    intro j a b hL
    rw [List.getD_eq_getElem?_getD, List.getElem?_map, hL]; rfl
  refine ⟨la, cap, L.map G, Rl, by rw [hlen], by omega, hm, by rw [hlen]; exact hno, ?_, hR, ?_⟩
  · intro i
    unfold ra rl
    by_cases hi : i < n
    · obtain ⟨a, b, hL, ha, hb⟩ := hat i hi
      rw [hget i a b hL]; exact ⟨ha, hb⟩
    · rw [List.getD_eq_getElem?_getD, List.getElem?_eq_none (by omega)]
      exact ⟨⟨by decide, by decide⟩, ⟨by decide, by decide⟩⟩
  · rw [hlen, Nat.mul_comm]
    refine hI.more (fun _ hx => hx) fun j hj => ?_
    obtain ⟨a, b, hL, _, _⟩ := hat (j / 2) (by omega)
    unfold rcell ra rl
    rw [hget _ a b hL, List.getD_eq_getElem?_getD (l := L), hL, Option.getD_some]
    by_cases h2 : j % 2 = 0
    · rw [if_pos h2, h2]; rfl
    · rw [if_neg h2, show j % 2 = 1 by omega]; rfl
end Go.Proofs.Ytmkefcjphdaoiaa
