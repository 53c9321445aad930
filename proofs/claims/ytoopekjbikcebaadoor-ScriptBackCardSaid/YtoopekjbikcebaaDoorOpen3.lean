/- Arguments opened: slices of structs. -/
import Derived.Test.YtoopekjbikcebaaDoorOpen2
import Derived.Deep.Strs
namespace Go.Proofs.YtoopekjbikcebaaDoor
namespace K
open Go.ChangeShapes Go.WideShapes

theorem flat_get {α : Type} (f : α → List Value) (sz : Nat) : ∀ {l : List α}, (∀ x ∈ l, (f x).length = sz) → ∀ {i j : Nat} (hi : i < l.length), j < sz → (l.flatMap f)[i * sz + j]? = (f l[i])[j]?
  | [], _, i, j, hi, _ => by simp at hi
  | x :: l, h, i, j, hi, hj => by
    have hx := h x (List.mem_cons_self ..)
    rw [List.flatMap_cons]
    cases i with
    | zero => rw [Nat.zero_mul, Nat.zero_add, List.getElem?_append_left (by omega)]; rfl
    | succ i =>
      rw [List.getElem?_append_right (by rw [hx, Nat.succ_mul]; omega), hx, show (i + 1) * sz + j - sz = i * sz + j by rw [Nat.succ_mul]; omega]
      exact flat_get f sz (fun y hy => h y (List.mem_cons_of_mem _ hy)) (by simpa using hi) hj

section
variable {H : Type} {enc : TypeId × Value → H} {P : Program} {w : World} {base : Nat} {held : Bool}

/-- A slice of things that are cells f x each. -/
theorem open_flat {α : Type} (f : α → List Value) (Q : α → Prop) {r : Reach} {b0 : Nat} {t e : TypeId} {sz : Nat} {v : Value} {d : DataW H} {p : List MemPlace} (ht : P.underlying t = some (.slice e)) (hsz : P.cellsOf e = sz) (hz : 0 < sz)
    (hel : ∀ (cs : List Value) (fuel : Nat) (y : DataW H × List MemPlace), cs.length = sz → DataW.trod enc P w base (fun _ => true) held fuel e cs = some y → ∃ a, Q a ∧ cs = f a)
    (hv : Value.okWide P w r b0 t v) (h : DataW.Trod enc P w base (fun _ => true) held t v d p) :
    ∃ (la : Option Addr) (cap : Nat) (xs : List α) (Rl : List (Nat × Obj)), v = .slice la xs.length cap ∧ xs.length ≤ cap ∧ cap ≤ maxLen ∧ (la = none → xs.length = 0 ∧ cap = 0) ∧ (∀ x ∈ xs, Q x) ∧ Has w Rl ∧
      InS Rl la (xs.length * sz) (fun j => (xs.flatMap f).getD j undef) := by
  obtain ⟨la, n, cap, L, Rl, rfl, hn, hc, hm, hno, hL, hR, hI⟩ := open_in ht hsz hz hv h
  have hx : ∀ i, ∃ a : Option α, i < n → ∃ b, a = some b ∧ Q b ∧ L.getD i [] = f b := by
    intro i
    by_cases hi : i < n
    · obtain ⟨h1, fuel, y, h2⟩ := hL i hi
      obtain ⟨a, h3, h4⟩ := hel _ fuel y h1 h2
      exact ⟨some a, fun _ => ⟨a, rfl, h3, h4⟩⟩
    · exact ⟨none, fun h => absurd h hi⟩
  obtain ⟨g, hg⟩ : ∃ g : Nat → Option α, ∀ i, i < n → ∃ b, g i = some b ∧ Q b ∧ L.getD i [] = f b := ⟨fun i => Classical.choose (hx i), fun i => Classical.choose_spec (hx i)⟩
  have hlen : ((List.range n).filterMap g).length = n ∧ ∀ i, i < n → ((List.range n).filterMap g)[i]? = g i := by
    have key : ∀ m, m ≤ n → ((List.range m).filterMap g).length = m ∧ ∀ i, i < m → ((List.range m).filterMap g)[i]? = g i := by
      intro m
      induction m with
      | zero => intro _; exact ⟨rfl, fun i hi => by omega⟩
      | succ m ih =>
        intro hm
        obtain ⟨h1, h2⟩ := ih (by omega)
        obtain ⟨b, hb, _⟩ := hg m (by omega)
        rw [List.range_succ, List.filterMap_append, show List.filterMap g [m] = [b] by simp [hb]]
        refine ⟨by rw [List.length_append, h1]; rfl, fun i hi => ?_⟩
        by_cases him : i < m
        · rw [List.getElem?_append_left (by omega), h2 i him]
        · have : i = m := by omega
          subst this
          rw [List.getElem?_append_right (by omega), h1, Nat.sub_self, hb]; rfl
    exact key n (Nat.le_refl _)
  obtain ⟨hlen, hget⟩ := hlen
  have hq : ∀ i (hi : i < ((List.range n).filterMap g).length), Q ((List.range n).filterMap g)[i] ∧ L.getD i [] = f ((List.range n).filterMap g)[i] := by
    intro i hi
    obtain ⟨b, hb, h1, h2⟩ := hg i (by omega)
    have := hget i (by omega)
    rw [List.getElem?_eq_getElem hi, hb] at this
    rw [Option.some.inj this]; exact ⟨h1, h2⟩
  refine ⟨la, cap, (List.range n).filterMap g, Rl, by rw [hlen], by omega, hm, by rw [hlen]; exact hno, ?_, hR, ?_⟩
  · intro x hx
    obtain ⟨i, hi, rfl⟩ := List.getElem_of_mem hx
    exact (hq i hi).1
  · rw [hlen]
    refine hI.more (fun _ hx => hx) fun j hj => ?_
    have hi : j / sz < n := Nat.div_lt_of_lt_mul (by rw [Nat.mul_comm]; exact hj)
    have hr : j % sz < sz := Nat.mod_lt _ hz
    have hfl : ∀ x ∈ (List.range n).filterMap g, (f x).length = sz := by
      intro x hx
      obtain ⟨i, hi, rfl⟩ := List.getElem_of_mem hx
      rw [← (hq i hi).2]; exact (hL i (by omega)).1
    have h1 := flat_get f sz hfl (i := j / sz) (j := j % sz) (by omega) hr
    rw [show j / sz * sz + j % sz = j by rw [Nat.mul_comm]; exact Nat.div_add_mod j sz] at h1
    rw [(hq (j / sz) (by omega)).2, List.getD_eq_getElem?_getD, List.getD_eq_getElem?_getD, h1]

end
end K
end Go.Proofs.YtoopekjbikcebaaDoor
