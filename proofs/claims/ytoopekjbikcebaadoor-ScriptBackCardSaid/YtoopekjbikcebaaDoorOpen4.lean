/- Slices in arguments, wherever they lie. -/
import Derived.Test.YtoopekjbikcebaaDoorOpen3
namespace Go.Proofs.YtoopekjbikcebaaDoor
namespace K
open Go.ChangeShapes Go.WideShapes
section
variable {H : Type} {enc : TypeId × Value → H} {P : Program} {w : World} {base : Nat} {held : Bool}

/-- A slice: its cells, element by element, and the block in which they lie. -/
theorem trod_in {t e : TypeId} {sz fuel : Nat} {cs0 : List Value} {x : DataW H × List MemPlace} (ht : P.underlying t = some (.slice e)) (hsz : P.cellsOf e = sz) (hz : 0 < sz) (hf : DataW.trod enc P w base (fun _ => true) held fuel t cs0 = some x) :
    ∃ (la : Option Addr) (n cap : Nat) (L : List (List Value)) (Rl : List (Nat × Obj)), cs0 = [.slice la n cap] ∧ L.length = n ∧ n ≤ cap ∧ cap ≤ maxLen ∧ (la = none → n = 0 ∧ cap = 0) ∧
      (∀ i, i < n → (L.getD i []).length = sz ∧ ∃ fuel y, DataW.trod enc P w base (fun _ => true) held fuel e (L.getD i []) = some y) ∧ Has w Rl ∧ InS Rl la (n * sz) (fun j => (L.getD (j / sz) []).getD (j % sz) undef) := by
  rcases Go.Deep.open_slice ht hf with ⟨rfl, _⟩ | ⟨a, n0, cap, m, k, D, Pl, rfl, _, hl, hm, hmm, _, hx⟩
  · refine ⟨none, 0, 0, [], [], rfl, rfl, Nat.le_refl _, Nat.zero_le _, fun _ => ⟨rfl, rfl⟩, (fun i hi => by omega), (fun e he => by cases he), fun hk => by simp at hk⟩
  · simp only [if_true] at hmm
    subst hmm
    rw [hsz] at hx
    have hx' : ∀ i, ∃ cs', i < n0 → (w.cells? base (a.add (i * sz)) sz = some cs' ∧ DataW.trod enc P w base (fun _ => true) held k e cs' = some (D i, Pl i)) := by
      intro i
      by_cases hi : i < n0
      · obtain ⟨cs', h1⟩ := hx i (by omega)
        exact ⟨cs', fun _ => h1⟩
      · exact ⟨[], fun h => absurd h hi⟩
    obtain ⟨g, hg⟩ : ∃ g : Nat → List Value, ∀ i, i < n0 → (w.cells? base (a.add (i * sz)) sz = some (g i) ∧ DataW.trod enc P w base (fun _ => true) held k e (g i) = some (D i, Pl i)) := ⟨fun i => Classical.choose (hx' i), fun i => Classical.choose_spec (hx' i)⟩
    have hgetL : ∀ i, i < n0 → ((List.range n0).map g).getD i [] = g i := fun i hi => by simp [hi]
    have hcell : ∀ j, j < n0 * sz → w.cell? (a.add j) = some ((((List.range n0).map g).getD (j / sz) []).getD (j % sz) undef) := by
      intro j hj
      have hq : j / sz < n0 := Nat.div_lt_of_lt_mul (by rw [Nat.mul_comm]; exact hj)
      have hr : j % sz < sz := Nat.mod_lt _ hz
      obtain ⟨h1, _⟩ := hg (j / sz) hq
      obtain ⟨_, hlen, hat⟩ := World.cells?_some h1
      have h2 := hat (j % sz) hr
      rw [Go.Deep.add_add, show j / sz * sz + j % sz = j by rw [Nat.mul_comm]; exact Nat.div_add_mod j sz] at h2
      rw [h2, hgetL _ hq, List.getD_eq_getElem?_getD, List.getElem?_eq_getElem (by omega)]
      rfl
    have hele : ∀ i, i < n0 → (((List.range n0).map g).getD i []).length = sz ∧ ∃ fuel y, DataW.trod enc P w base (fun _ => true) held fuel e (((List.range n0).map g).getD i []) = some y := by
      intro i hi
      obtain ⟨h1, h2⟩ := hg i hi
      rw [hgetL i hi]
      exact ⟨(World.cells?_some h1).2.1, k, _, h2⟩
    by_cases hk : 0 < n0 * sz
    · have h0 := hcell 0 hk
      rw [Addr.add_zero'] at h0
      obtain ⟨bl, off, sp⟩ := a
      unfold World.cell? at h0
      simp only at h0
      cases hh : w.heap[bl]? with
      | none => rw [hh] at h0; cases h0
      | some ob =>
        rw [hh] at h0
        cases ob with
        | cells c el fr =>
          simp only at h0
          cases sp with
          | some q => simp at h0
          | none =>
            refine ⟨some ⟨bl, off, none⟩, n0, _, (List.range n0).map g, [(bl, .cells c el fr)], rfl, by simp, hl, hm, (fun h => by cases h), hele, (fun x hx => by simp only [List.mem_cons, List.not_mem_nil, or_false] at hx; subst hx; exact hh), fun _ => ⟨bl, off, c, el, fr, rfl, List.mem_cons_self .., fun j hj => ?_⟩⟩
            have := hcell j hj
            rw [add_none, cell_cells hh] at this
            exact this
        | _ => cases h0
    · exact ⟨some a, n0, _, (List.range n0).map g, [], rfl, by simp, hl, hm, (fun h => by cases h), hele, (fun x hx => by cases hx), fun h => absurd h hk⟩


/-- A slice of bools. -/
theorem trod_bools {t e : TypeId} {fuel0 : Nat} {cs0 : List Value} {x : DataW H × List MemPlace} (ht : P.underlying t = some (.slice e)) (he : P.underlying e = some .bool) (hce : P.cellsOf e = 1) (h : DataW.trod enc P w base (fun _ => true) held fuel0 t cs0 = some x) :
    ∃ (la : Option Addr) (cap : Nat) (ks : List Bool) (Rl : List (Nat × Obj)), cs0 = [.slice la ks.length cap] ∧ ks.length ≤ cap ∧ cap ≤ maxLen ∧ (la = none → ks.length = 0 ∧ cap = 0) ∧ Has w Rl ∧ InS Rl la ks.length (fun j => .bool (ks.getD j false)) := by
  obtain ⟨la, n, cap, L, Rl, rfl, hn, hc, hm, hno, hel, hR, hI⟩ := trod_in ht hce (by omega) h
  have hlen : (L.map fun cs => match cs with | [.bool b] => b | _ => false).length = n := by rw [List.length_map, hn]
  refine ⟨la, cap, L.map fun cs => match cs with | [.bool b] => b | _ => false, Rl, by rw [hlen], by omega, hm, by rw [hlen]; exact hno, hR, ?_⟩
  rw [hlen]
  rw [Nat.mul_one] at hI
  refine hI.more (fun _ hx => hx) fun j hj => ?_
  obtain ⟨h1, fuel, y, h2⟩ := hel j hj
  obtain ⟨b, hb, _⟩ := DataW.trod_bool he h2
  have hL : L[j]? = some [.bool b] := by
    rw [List.getElem?_eq_getElem (by omega)]
    rw [List.getD_eq_getElem?_getD, List.getElem?_eq_getElem (by omega)] at hb
    exact congrArg some hb
  simp [List.getD_eq_getElem?_getD, Nat.mod_one, hL]


/-- A slice of things that are cells f x each. -/
theorem trod_flat {α : Type} (f : α → List Value) (Q : α → Prop) {t e : TypeId} {sz fuel0 : Nat} {cs0 : List Value} {x0 : DataW H × List MemPlace} (ht : P.underlying t = some (.slice e)) (hsz : P.cellsOf e = sz) (hz : 0 < sz)
    (hel : ∀ (cs : List Value) (fuel : Nat) (y : DataW H × List MemPlace), cs.length = sz → DataW.trod enc P w base (fun _ => true) held fuel e cs = some y → ∃ a, Q a ∧ cs = f a)
    (h : DataW.trod enc P w base (fun _ => true) held fuel0 t cs0 = some x0) :
    ∃ (la : Option Addr) (cap : Nat) (xs : List α) (Rl : List (Nat × Obj)), cs0 = [.slice la xs.length cap] ∧ xs.length ≤ cap ∧ cap ≤ maxLen ∧ (la = none → xs.length = 0 ∧ cap = 0) ∧ (∀ x ∈ xs, Q x) ∧ Has w Rl ∧
      InS Rl la (xs.length * sz) (fun j => (xs.flatMap f).getD j undef) := by
  obtain ⟨la, n, cap, L, Rl, rfl, hn, hc, hm, hno, hL, hR, hI⟩ := trod_in ht hsz hz h
  have hx : ∀ i, ∃ a : Option α, i < n → ∃ b, a = some b ∧ Q b ∧ L.getD i [] = f b := by
    intro i
    by_cases hi : i < n
    · obtain ⟨h1, fuel, y, h2⟩ := hL i hi
      obtain ⟨a, h3, h4⟩ := hel _ fuel y h1 h2
      exact ⟨some a, fun _ => ⟨a, rfl, h3, h4⟩⟩
    · exact ⟨none, fun h => absurd h hi⟩
  obtain ⟨g, hg⟩ : ∃ g : Nat → Option α, ∀ i, i < n → ∃ b, g i = some b ∧ Q b ∧ L.getD i [] = f b := ⟨fun i => Classical.choose (hx i), fun i => Classical.choose_spec (hx i)⟩
  have hlen : ((List.range n).filterMap g).length = n ∧ ∀ i, i < n → ((List.range n).filterMap g)[i]? = g i := by
    have key : ∀ m, m ≤ n → ((List.range m).filterMap g).length = m ∧ ∀ i, i < m → ((List.range m).filterMap g)[i]? = g i := by
      intro m
      induction m with
      | zero => intro _; exact ⟨rfl, fun i hi => by omega⟩
      | succ m ih =>
        intro hm
        obtain ⟨h1, h2⟩ := ih (by omega)
        obtain ⟨b, hb, _⟩ := hg m (by omega)
        rw [List.range_succ, List.filterMap_append, show List.filterMap g [m] = [b] by simp [hb]]
        refine ⟨by rw [List.length_append, h1]; rfl, fun i hi => ?_⟩
        by_cases him : i < m
        · rw [List.getElem?_append_left (by omega), h2 i him]
        · have : i = m := by omega
          subst this
          rw [List.getElem?_append_right (by omega), h1, Nat.sub_self, hb]; rfl
    exact key n (Nat.le_refl _)
  obtain ⟨hlen, hget⟩ := hlen
  have hq : ∀ i (hi : i < ((List.range n).filterMap g).length), Q ((List.range n).filterMap g)[i] ∧ L.getD i [] = f ((List.range n).filterMap g)[i] := by
    intro i hi
    obtain ⟨b, hb, h1, h2⟩ := hg i (by omega)
    have := hget i (by omega)
    rw [List.getElem?_eq_getElem hi, hb] at this
    rw [Option.some.inj this]; exact ⟨h1, h2⟩
  refine ⟨la, cap, (List.range n).filterMap g, Rl, by rw [hlen], by omega, hm, by rw [hlen]; exact hno, ?_, hR, ?_⟩
  · intro x hx
    obtain ⟨i, hi, rfl⟩ := List.getElem_of_mem hx
    exact (hq i hi).1
  · rw [hlen]
    refine hI.more (fun _ hx => hx) fun j hj => ?_
    have hi : j / sz < n := Nat.div_lt_of_lt_mul (by rw [Nat.mul_comm]; exact hj)
    have hr : j % sz < sz := Nat.mod_lt _ hz
    have hfl : ∀ x ∈ (List.range n).filterMap g, (f x).length = sz := by
      intro x hx
      obtain ⟨i, hi, rfl⟩ := List.getElem_of_mem hx
      rw [← (hq i hi).2]; exact (hL i (by omega)).1
    have h1 := flat_get f sz hfl (i := j / sz) (j := j % sz) (by omega) hr
    rw [show j / sz * sz + j % sz = j by rw [Nat.mul_comm]; exact Nat.div_add_mod j sz] at h1
    rw [(hq (j / sz) (by omega)).2, List.getD_eq_getElem?_getD, List.getD_eq_getElem?_getD, h1]

end
end K
end Go.Proofs.YtoopekjbikcebaaDoor
