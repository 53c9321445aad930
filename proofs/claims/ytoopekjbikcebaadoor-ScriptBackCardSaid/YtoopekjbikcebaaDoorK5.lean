/- The memory that a walk knows (blocks that are only read, blocks that are its own), and a call's configuration: slots, memory, code that is left. -/
import Derived.Test.YtoopekjbikcebaaDoorK4
import Derived.Below
namespace Go.Proofs.YtoopekjbikcebaaDoor
namespace K

/-! ### Memory -/

/-- w' is w with new blocks and other contents of the blocks M; all else as it was. -/
structure Ext (M : List Nat) (w w' : World) : Prop where
  os : w'.os = w.os
  tape : w'.tape = w.tape
  output : w'.output = w.output
  size : w.heap.size ≤ w'.heap.size
  block : ∀ k, k < w.heap.size → k ∉ M → w'.heap[k]? = w.heap[k]?

theorem Ext.refl (M : List Nat) (w : World) : Ext M w w := ⟨rfl, rfl, rfl, Nat.le_refl _, fun _ _ _ => rfl⟩

theorem Ext.trans {M M' : List Nat} {w w1 w2 : World} (h : Ext M w w1) (h' : Ext M' w1 w2) (hM : ∀ k ∈ M', k < w.heap.size → k ∈ M) : Ext M w w2 :=
  ⟨h'.os.trans h.os, h'.tape.trans h.tape, h'.output.trans h.output, Nat.le_trans h.size h'.size, fun k hk hn =>
    (h'.block k (Nat.lt_of_lt_of_le hk h.size) (fun hm => hn (hM k hm hk))).trans (h.block k hk hn)⟩

theorem Ext.mono {M M' : List Nat} {w w' : World} (h : Ext M w w') (hM : ∀ k ∈ M, k ∈ M') : Ext M' w w' :=
  ⟨h.os, h.tape, h.output, h.size, fun k hk hn => h.block k hk (fun hm => hn (hM k hm))⟩

theorem Ext.nil {M : List Nat} {w w' : World} (h : Ext [] w w') : Ext M w w' := h.mono (fun _ hk => by cases hk)

theorem Ext.below {w w' : World} (h : Ext [] w w') : RowKit.Below w.heap.size w w' := ⟨h.os, h.tape, h.output, h.size, fun k hk => h.block k hk (by simp)⟩

structure HP (w0 : World) (M : List Nat) (R O : List (Nat × Obj)) (w : World) : Prop where
  ext : Ext M w0 w
  ro : ∀ e ∈ R, w.heap[e.1]? = some e.2
  rod : ∀ e ∈ R, e.1 < w0.heap.size ∧ e.1 ∉ M
  own : ∀ e ∈ O, w.heap[e.1]? = some e.2
  dist : (O.map (·.1)).Nodup
  mine : ∀ e ∈ O, w0.heap.size ≤ e.1 ∨ e.1 ∈ M

section
variable {w0 w w' : World} {M : List Nat} {R O : List (Nat × Obj)}

theorem lt_of_get {b : Nat} {o : Obj} (h : w.heap[b]? = some o) : b < w.heap.size := by
  rcases Nat.lt_or_ge b w.heap.size with hh | hh
  · exact hh
  · rw [Array.getElem?_eq_none hh] at h; cases h

/-- The memory behind something that keeps to M. -/
theorem HP.call (h : HP w0 M R O w) {M' : List Nat} (hx : Ext M' w w') (O' : List (Nat × Obj)) (hO : O'.Sublist O) (hM : ∀ k ∈ M', k ∈ O.map (·.1)) (hd : ∀ e ∈ O', e.1 ∉ M') : HP w0 M R O' w' := by
  have hM0 : ∀ k ∈ M', k < w0.heap.size → k ∈ M := by
    intro k hk hlt
    obtain ⟨e, he, rfl⟩ := List.mem_map.1 (hM k hk)
    rcases h.mine e he with h1 | h1
    · omega
    · exact h1
  refine ⟨h.ext.trans hx hM0, fun e he => ?_, h.rod, fun e he => ?_, ?_, fun e he => h.mine e (hO.subset he)⟩
  · have hr := h.ro e he
    rw [hx.block e.1 (lt_of_get hr) (fun hm => (h.rod e he).2 (hM0 _ hm (h.rod e he).1))]; exact hr
  · have ho := h.own e (hO.subset he)
    rw [hx.block e.1 (lt_of_get ho) (hd e he)]; exact ho
  · exact h.dist.sublist (hO.map _)

theorem HP.calm (h : HP w0 M R O w) (hx : Ext [] w w') : HP w0 M R O w' := h.call hx O (List.Sublist.refl _) (fun _ hk => by cases hk) (fun _ _ => by simp)

/-- A block that is new, or one of M' that was put by. -/
theorem HP.add (h : HP w0 M R O w) {b : Nat} {o : Obj} (hb : w.heap[b]? = some o) (hn : b ∉ O.map (·.1)) (hm : w0.heap.size ≤ b ∨ b ∈ M) : HP w0 M R ((b, o) :: O) w :=
  ⟨h.ext, h.ro, h.rod, fun e he => by
    rcases List.mem_cons.1 he with rfl | he
    · exact hb
    · exact h.own e he, by simp only [List.map_cons]; exact List.nodup_cons.2 ⟨hn, h.dist⟩, fun e he => by
    rcases List.mem_cons.1 he with rfl | he
    · exact hm
    · exact h.mine e he⟩

theorem HP.fresh (h : HP w0 M R O w) {b : Nat} (hb : w.heap.size ≤ b) : b ∉ O.map (·.1) := by
  intro hm
  obtain ⟨e, he, rfl⟩ := List.mem_map.1 hm
  have := lt_of_get (h.own e he)
  omega

theorem HP.sub (h : HP w0 M R O w) {O' : List (Nat × Obj)} (hO : O'.Sublist O) : HP w0 M R O' w :=
  ⟨h.ext, h.ro, h.rod, fun e he => h.own e (hO.subset he), h.dist.sublist (hO.map _), fun e he => h.mine e (hO.subset he)⟩

theorem HP.subR (h : HP w0 M R O w) {R' : List (Nat × Obj)} (hR : ∀ e ∈ R', e ∈ R) : HP w0 M R' O w :=
  ⟨h.ext, fun e he => h.ro e (hR e he), fun e he => h.rod e (hR e he), h.own, h.dist, h.mine⟩

theorem ext_drew (w : World) : Ext [] w { w with drawn := w.drawn + 1 } := ⟨rfl, rfl, rfl, Nat.le_refl _, fun _ _ _ => rfl⟩

theorem ext_alloc (w : World) (o : Obj) : Ext [] w (w.alloc o) :=
  ⟨rfl, rfl, rfl, by show w.heap.size ≤ (w.heap.push o).size; simp, fun k hk _ => by
    show (w.heap.push o)[k]? = w.heap[k]?
    rw [Array.getElem?_push, if_neg (by omega)]⟩

theorem get_alloc (w : World) (o : Obj) : (w.alloc o).heap[w.heap.size]? = some o := by
  show (w.heap.push o)[w.heap.size]? = some o
  simp

theorem HP.drew (h : HP w0 M R O w) : HP w0 M R O { w with drawn := w.drawn + 1 } := h.calm (ext_drew w)

theorem HP.alloc (h : HP w0 M R O w) (o : Obj) : HP w0 M R ((w.heap.size, o) :: O) (w.alloc o) :=
  (h.calm (ext_alloc w o)).add (get_alloc w o) (h.fresh (Nat.le_refl _)) (.inl h.ext.size)

theorem ext_set (w : World) (b : Nat) (o : Obj) : Ext [b] w { w with heap := w.heap.setIfInBounds b o } :=
  ⟨rfl, rfl, rfl, by simp, fun k _ hn => by
    have : b ≠ k := fun e => hn (by simp [e])
    simp [this]⟩

theorem nodup_inj {l : List Nat} (h : l.Nodup) {i j x : Nat} (hi : l[i]? = some x) (hj : l[j]? = some x) : i = j := by
  induction l generalizing i j with
  | nil => simp at hi
  | cons y l ih =>
    obtain ⟨h1, h2⟩ := List.nodup_cons.1 h
    cases i with
    | zero =>
      cases j with
      | zero => rfl
      | succ j => simp at hi hj; subst hi; exact absurd (List.mem_of_getElem? hj) h1
    | succ i =>
      cases j with
      | zero => simp at hi hj; subst hj; exact absurd (List.mem_of_getElem? hi) h1
      | succ j => simp at hi hj; rw [ih h2 hi hj]

/-- Another content for block i of the own ones. -/
theorem HP.set (h : HP w0 M R O w) (i : Nat) {b : Nat} {o : Obj} (o' : Obj) (hi : O[i]? = some (b, o)) (hw : w'.heap = w.heap.setIfInBounds b o') (h1 : w'.os = w.os) (h2 : w'.tape = w.tape) (h3 : w'.output = w.output) :
    HP w0 M R (O.set i (b, o')) w' := by
  have hmem : (b, o) ∈ O := List.mem_of_getElem? hi
  have hlt : i < O.length := (List.getElem?_eq_some_iff.1 hi).1
  have hbl := lt_of_get (h.own _ hmem)
  have hother : ∀ e ∈ O.set i (b, o'), e = (b, o') ∨ (e ∈ O ∧ e.1 ≠ b) := by
    intro e he
    obtain ⟨j, hj⟩ := List.mem_iff_getElem?.1 he
    rw [List.getElem?_set] at hj
    by_cases hij : i = j
    · subst hij
      simp [hlt] at hj
      exact .inl hj.symm
    · rw [if_neg hij] at hj
      refine .inr ⟨List.mem_of_getElem? hj, fun hb => hij ?_⟩
      have e1 : (O.map (·.1))[i]? = some b := by simp [hi]
      have e2 : (O.map (·.1))[j]? = some b := by simp [hj, hb]
      exact nodup_inj h.dist e1 e2
  have hmap : (O.set i (b, o')).map (·.1) = O.map (·.1) := by
    rw [List.map_set]
    apply List.ext_getElem?
    intro j
    rw [List.getElem?_set]
    by_cases hij : i = j
    · subst hij; simp [hlt]; have := (List.getElem?_eq_some_iff.1 hi).2; rw [this]
    · rw [if_neg hij]
  have hget : ∀ k, k ≠ b → w'.heap[k]? = w.heap[k]? := fun k hk => by rw [hw]; simp [Ne.symm hk]
  refine ⟨⟨h1.trans h.ext.os, h2.trans h.ext.tape, h3.trans h.ext.output, by rw [hw]; simpa using h.ext.size, fun k hk hn => ?_⟩, fun e he => ?_, h.rod, fun e he => ?_, by rw [hmap]; exact h.dist, fun e he => ?_⟩
  · have hkb : k ≠ b := by
      rintro rfl
      rcases h.mine _ hmem with hh | hh
      · simp only at hh; omega
      · exact hn hh
    rw [hget k hkb]; exact h.ext.block k hk hn
  · have hkb : e.1 ≠ b := by
      intro hb
      rcases h.mine _ hmem with hh | hh
      · have := (h.rod e he).1; simp only at hh; omega
      · exact (h.rod e he).2 (hb ▸ hh)
    rw [hget _ hkb]; exact h.ro e he
  · rcases hother e he with rfl | ⟨he', hne⟩
    · simp [hw, hbl]
    · rw [hget _ hne]; exact h.own e he'
  · rcases hother e he with rfl | ⟨he', _⟩
    · exact h.mine (b, o) hmem
    · exact h.mine e he'

theorem cell_cells {b off : Nat} {cs : Array Value} {t : TypeId} {fr : Nat × Nat} (h : w.heap[b]? = some (.cells cs t fr)) : w.cell? ⟨b, off, none⟩ = cs[off]? := by
  simp [World.cell?, h]

theorem HP.rcell (h : HP w0 M R O w) (i : Nat) {b off : Nat} {cs : Array Value} {t : TypeId} {fr : Nat × Nat} {v : Value} (hi : R[i]? = some (b, .cells cs t fr)) (hv : cs[off]? = some v) : w.cell? ⟨b, off, none⟩ = some v := by
  rw [cell_cells (h.ro _ (List.mem_of_getElem? hi))]; exact hv

theorem HP.ocell (h : HP w0 M R O w) (i : Nat) {b off : Nat} {cs : Array Value} {t : TypeId} {fr : Nat × Nat} {v : Value} (hi : O[i]? = some (b, .cells cs t fr)) (hv : cs[off]? = some v) : w.cell? ⟨b, off, none⟩ = some v := by
  rw [cell_cells (h.own _ (List.mem_of_getElem? hi))]; exact hv

theorem setCell_heap {b off : Nat} {cs : Array Value} {t : TypeId} {fr : Nat × Nat} {v : Value} (h : w.heap[b]? = some (.cells cs t fr)) :
    (w.setCell ⟨b, off, none⟩ v).heap = w.heap.setIfInBounds b (.cells (cs.setIfInBounds off v) t fr) := by
  apply Array.ext_getElem?
  intro k
  have hb := lt_of_get h
  simp only [World.setCell, Array.getElem?_modify, Array.getElem?_setIfInBounds]
  by_cases hk : b = k
  · subst hk
    have h' : w.heap[b] = .cells cs t fr := by simpa [Array.getElem?_eq_getElem hb] using h
    simp [hb, h']
  · simp [hk]

theorem HP.setCell (h : HP w0 M R O w) (i : Nat) {b off : Nat} {cs : Array Value} {t : TypeId} {fr : Nat × Nat} (v : Value) (hi : O[i]? = some (b, .cells cs t fr)) :
    HP w0 M R (O.set i (b, .cells (cs.setIfInBounds off v) t fr)) (w.setCell ⟨b, off, none⟩ v) :=
  h.set i _ hi (setCell_heap (h.own _ (List.mem_of_getElem? hi))) rfl rfl rfl

end
end K
end Go.Proofs.YtoopekjbikcebaaDoor
