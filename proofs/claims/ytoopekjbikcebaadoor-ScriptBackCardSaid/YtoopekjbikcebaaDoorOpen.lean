/- Arguments opened: what a reading says of arrays of bytes. -/
import Derived.Test.YtoopekjbikcebaaDoorK10
import Derived.Deep.Slices
import Derived.ProofKit
import Derived.OpenShut
namespace Go.Proofs.YtoopekjbikcebaaDoor
namespace K
open Go.ChangeShapes Go.WideShapes

section
variable {H : Type} {enc : TypeId × Value → H} {P : Program} {w : World} {base : Nat} {spare : Nat → Bool} {held : Bool}

theorem wf_u8 {n : Int} (h : (Lit.int .u8 n).wf = true) : 0 ≤ n ∧ n ≤ 255 := by
  simp [Lit.wf, IntKind.min, IntKind.max, IntKind.signed, IntKind.bits] at h
  omega

/-- The bytes that cells are. -/
def toB : Value → UInt8
  | .int _ n => UInt8.ofNat n.toNat
  | _ => 0

theorem trod_u8 {e : TypeId} {fuel : Nat} {v : Value} {x : DataW H × List MemPlace} (he : P.underlying e = some (.int .u8)) (h : DataW.trod enc P w base spare held fuel e [v] = some x) : v = .int .u8 ((toB v).toNat : Int) := by
  obtain ⟨n, hn, _, hw⟩ := DataW.trod_int he h
  simp only [List.cons.injEq, and_true] at hn
  subst hn
  have := wf_u8 hw
  simp only [toB, UInt8.toNat_ofNat']
  congr 1
  omega

/-- Cells that read as an array of bytes. -/
theorem trod_bytes {t e : TypeId} {n fuel : Nat} {cs : List Value} {x : DataW H × List MemPlace} (ht : P.underlying t = some (.array n e)) (he : P.underlying e = some (.int .u8)) (hce : P.cellsOf e = 1) (hct : P.cellsOf t = n)
    (h : DataW.trod enc P w base spare held fuel t cs = some x) : (cs.map toB).length = n ∧ cs.toArray = bv (cs.map toB) := by
  obtain ⟨xs, m, _, _, hl, hx, hi⟩ := DataW.trod_array ht h
  rw [hct] at hl
  refine ⟨by simpa using hl, ?_⟩
  apply Array.ext'
  simp only [bv, List.map_map]
  apply List.ext_getElem?
  intro i
  by_cases hlt : i < n
  · have h1 := hi i hlt
    rw [hce, Nat.mul_one, List.drop_eq_getElem_cons (by omega), List.take_succ_cons, List.take_zero] at h1
    have hxs : xs[i]? = some (xs[i]'(by omega)) := List.getElem?_eq_getElem (by omega)
    rw [hxs] at h1
    have h2 := trod_u8 he h1
    rw [List.getElem?_map, List.getElem?_eq_getElem (show i < cs.length by omega), Option.map_some, Function.comp]
    rw [← h2]
  · rw [List.getElem?_eq_none (by omega), List.getElem?_eq_none (by simp; omega)]

/-- An argument that is an array of bytes. -/
theorem open_bytes {r : Reach} {b0 : Nat} {t e : TypeId} {n : Nat} {v : Value} {d : DataW H} {p : List MemPlace} (ht : P.underlying t = some (.array n e)) (he : P.underlying e = some (.int .u8)) (hce : P.cellsOf e = 1) (hct : P.cellsOf t = n)
    (hv : Value.okWide P w r b0 t v) (h : DataW.Trod enc P w base spare held t v d p) : ∃ l : List UInt8, l.length = n ∧ v = .agg (bv l) := by
  unfold Value.okWide at hv
  rw [ht] at hv
  obtain ⟨cs, rfl, _, _⟩ := hv
  obtain ⟨fuel, hf⟩ := h
  obtain ⟨h1, h2⟩ := trod_bytes ht he hce hct hf
  simp only [Value.cells, Array.toArray_toList] at h1 h2
  exact ⟨_, h1, by rw [← h2]⟩

/-- An argument that is a slice: its cells, element by element, and the block in which they lie. -/
theorem open_in {r : Reach} {b0 : Nat} {t e : TypeId} {sz : Nat} {v : Value} {d : DataW H} {p : List MemPlace} (ht : P.underlying t = some (.slice e)) (hsz : P.cellsOf e = sz) (hz : 0 < sz) (hv : Value.okWide P w r b0 t v) (h : DataW.Trod enc P w base (fun _ => true) held t v d p) :
    ∃ (la : Option Addr) (n cap : Nat) (L : List (List Value)) (Rl : List (Nat × Obj)), v = .slice la n cap ∧ L.length = n ∧ n ≤ cap ∧ cap ≤ maxLen ∧ (la = none → n = 0 ∧ cap = 0) ∧
      (∀ i, i < n → (L.getD i []).length = sz ∧ ∃ fuel y, DataW.trod enc P w base (fun _ => true) held fuel e (L.getD i []) = some y) ∧ Has w Rl ∧ InS Rl la (n * sz) (fun j => (L.getD (j / sz) []).getD (j % sz) undef) := by
  obtain ⟨a0, n0, c0, rfl⟩ := okWide_slice ht hv
  obtain ⟨fuel, hf⟩ := h
  rcases Go.Deep.open_slice ht hf with ⟨hc, _⟩ | ⟨a, len, cap, m, k, D, Pl, hc, _, hl, hm, hmm, _, hx⟩
  · simp only [Value.cells, List.cons.injEq, Value.slice.injEq, and_true] at hc
    obtain ⟨rfl, rfl, rfl⟩ := hc
    refine ⟨none, 0, 0, [], [], rfl, rfl, Nat.le_refl _, Nat.zero_le _, fun _ => ⟨rfl, rfl⟩, (fun i hi => by omega), (fun e he => by cases he), fun hk => by simp at hk⟩
  · simp only [Value.cells, List.cons.injEq, Value.slice.injEq, and_true] at hc
    obtain ⟨rfl, rfl, rfl⟩ := hc
    simp only [if_true] at hmm
    subst hmm
    rw [hsz] at hx
    have hx' : ∀ i, ∃ cs', i < n0 → (w.cells? base (a.add (i * sz)) sz = some cs' ∧ DataW.trod enc P w base (fun _ => true) held k e cs' = some (D i, Pl i)) := by
      intro i
      by_cases hi : i < n0
      · obtain ⟨cs', h1⟩ := hx i (by omega)
        exact ⟨cs', fun _ => h1⟩
      · exact ⟨[], fun h => absurd h hi⟩
    obtain ⟨g, hg⟩ : ∃ g : Nat → List Value, ∀ i, i < n0 → (w.cells? base (a.add (i * sz)) sz = some (g i) ∧ DataW.trod enc P w base (fun _ => true) held k e (g i) = some (D i, Pl i)) := ⟨fun i => Classical.choose (hx' i), fun i => Classical.choose_spec (hx' i)⟩
    have hgetL : ∀ i, i < n0 → ((List.range n0).map g).getD i [] = g i := fun i hi => by simp [hi]
    have hcell : ∀ j, j < n0 * sz → w.cell? (a.add j) = some ((((List.range n0).map g).getD (j / sz) []).getD (j % sz) undef) := by
      intro j hj
      have hq : j / sz < n0 := Nat.div_lt_of_lt_mul (by rw [Nat.mul_comm]; exact hj)
      have hr : j % sz < sz := Nat.mod_lt _ hz
      obtain ⟨h1, _⟩ := hg (j / sz) hq
      obtain ⟨_, hlen, hat⟩ := World.cells?_some h1
      have h2 := hat (j % sz) hr
      rw [Go.Deep.add_add, show j / sz * sz + j % sz = j by rw [Nat.mul_comm]; exact Nat.div_add_mod j sz] at h2
      rw [h2, hgetL _ hq, List.getD_eq_getElem?_getD, List.getElem?_eq_getElem (by omega)]
      rfl
    have hele : ∀ i, i < n0 → (((List.range n0).map g).getD i []).length = sz ∧ ∃ fuel y, DataW.trod enc P w base (fun _ => true) held fuel e (((List.range n0).map g).getD i []) = some y := by
      intro i hi
      obtain ⟨h1, h2⟩ := hg i hi
      rw [hgetL i hi]
      exact ⟨(World.cells?_some h1).2.1, k, _, h2⟩
    by_cases hk : 0 < n0 * sz
    · have h0 := hcell 0 hk
      rw [Addr.add_zero'] at h0
      obtain ⟨bl, off, sp⟩ := a
      unfold World.cell? at h0
      simp only at h0
      cases hh : w.heap[bl]? with
      | none => rw [hh] at h0; cases h0
      | some ob =>
        rw [hh] at h0
        cases ob with
        | cells c el fr =>
          simp only at h0
          cases sp with
          | some q => simp at h0
          | none =>
            refine ⟨some ⟨bl, off, none⟩, n0, _, (List.range n0).map g, [(bl, .cells c el fr)], rfl, by simp, hl, hm, (fun h => by cases h), hele, (fun x hx => by simp only [List.mem_cons, List.not_mem_nil, or_false] at hx; subst hx; exact hh), fun _ => ⟨bl, off, c, el, fr, rfl, List.mem_cons_self .., fun j hj => ?_⟩⟩
            have := hcell j hj
            rw [add_none, cell_cells hh] at this
            exact this
        | _ => cases h0
    · exact ⟨some a, n0, _, (List.range n0).map g, [], rfl, by simp, hl, hm, (fun h => by cases h), hele, (fun x hx => by cases hx), fun h => absurd h hk⟩

end
end K
end Go.Proofs.YtoopekjbikcebaaDoor
