/- Bytes made of a text: a row of one's own that may bear the model's mark; one element appended; rows made by make. -/
import Derived.Test.YtoopekjbikcebaaDoorK15
import Derived.ArgAppend
namespace Go.Proofs.YtoopekjbikcebaaDoor
namespace K

/-- A row that was made of a text, or grew out of one: its block, its capacity, the cells behind its elements, whether it bears the mark. -/
structure MO where
  b : Nat
  cap : Nat
  junk : List Value
  mark : Bool
def MO.fr (o : MO) : Nat × Nat := bif o.mark then (o.cap, o.cap + 1) else (0, 0)
def MO.o (e : TypeId) (xs : List Value) (o : MO) : List (Nat × Obj) := [(o.b, .cells (xs ++ o.junk).toArray e o.fr)]
structure MOk (o : MO) (n : Nat) (xs : List Value) : Prop where
  len : xs.length = n
  junk : n + o.junk.length = o.cap

section
variable {C : Cx} {R O : List (Nat × Obj)} {Γ : Env} {op : Oper}

theorem ext_push {w w' : World} {o : Obj} (hw : w'.heap = w.heap.push o) (h1 : w'.os = w.os) (h2 : w'.tape = w.tape) (h3 : w'.output = w.output) : Ext [] w w' :=
  ⟨h1, h2, h3, by rw [hw]; simp, fun k hk _ => by rw [hw, Array.getElem?_push, if_neg (by omega)]⟩

/-- A text made a row of bytes. -/
theorem Eff.toBytes {src dst e : TypeId} {x : Operand} (ho : op.op = .convert src dst x) (hu1 : C.P.underlying src = some .string) (hu2 : C.P.underlying dst = some (.slice e)) (hue : C.P.underlying e = some (.int .u8))
    {t : ByteArray} (hx : opd Γ [] x = some (.string t)) (Fl T : List (Nat × Obj)) (hO : O = Fl ++ T) :
    Eff C R O Γ op MO (fun o => .slice (some ⟨o.b, 0, none⟩) t.size o.cap) (fun o => Fl ++ (o.o e (bv t.data.toList).toList ++ T)) (fun o => MOk o t.size (bv t.data.toList).toList) := by
  refine Eff.perm (O2 := O) (O2' := fun o => o.o e (bv t.data.toList).toList ++ O) ?_ (List.Perm.refl _) (fun o => by rw [hO]; exact List.perm_append_comm_assoc _ _ _)
  refine Eff.of_run fun a w hs hp => ?_
  let cap := (Question.appendCap t.size 0 e).cut (w.tape w.drawn (.appendCap t.size 0 e))
  have hcap : t.size ≤ cap := Nat.le_add_right _ _
  let cs : Array Value := (t.data.map fun b => Value.int .u8 b.toNat) ++ Array.replicate (cap - t.size) (.int .u8 0)
  have hcs : cs.size = cap := by simp [cs]; show t.size + (cap - t.size) = cap; omega
  let w1 : World := { w with drawn := w.drawn + 1 }
  let w2 : World := (w1.alloc (.cells cs e (0, 0))).freeze ⟨w.heap.size, cap, none⟩ 1
  have hw2 : w2.heap = w.heap.push (.cells cs e (cap, cap + 1)) := by
    simp only [w2, World.freeze, World.alloc, Nat.one_ne_zero, if_false]
    apply Array.ext_getElem?
    intro k
    simp only [Array.getElem?_modify]
    by_cases hk : w.heap.size = k
    · subst hk; simp [w1]
    · simp only [hk, if_false]
      simp only [Array.getElem?_push, w1]
      rw [if_neg (fun h => hk h.symm), if_neg (fun h => hk h.symm)]
  have hstb : (Conv.stringToBytes e t).run C.P w = .ok (.slice (some ⟨w.heap.size, 0, none⟩) t.size cap) w2 := by
    have hsh : (w1.alloc (.cells cs e (0, 0))).shape? w.heap.size = some (e, cap) := by
      simp [World.shape?, World.alloc, w1, hcs]
    have hsh' : World.shape? { w1 with heap := w1.heap.push (.cells cs e (0, 0)) } w.heap.size = some (e, cap) := hsh
    unfold Conv.stringToBytes
    simp only [Sem.run_bind]
    show _ = Result.ok (Value.slice (some ⟨w.heap.size, 0, none⟩) t.size cap) w2
    simp only [choose, Sem.run, Question.forced, Bool.false_eq_true, if_false, Result.andThen_ok, newRow, newObj, Sem.run_bind, Sem.run_pure]
    simp only [markStringish, shape, Sem.run_bind, Sem.run]
    have hh : World.shape? { heap := w.heap.push (.cells ((t.data.map fun b => Value.int .u8 b.toNat) ++ Array.replicate ((Question.appendCap t.size 0 e).cut (w.tape w.drawn (.appendCap t.size 0 e)) - t.size) (.int .u8 0)) e), tape := w.tape, drawn := w.drawn + 1, os := w.os, output := w.output } w.heap.size = some (e, cap) := hsh'
    rw [hh]
    rfl
  have hcells : cs = ((bv t.data.toList).toList ++ List.replicate (cap - t.size) (Value.int .u8 0)).toArray := by
    apply Array.ext'
    simp [cs, bv_list]
  have hget : w2.heap[w.heap.size]? = some (.cells ((bv t.data.toList).toList ++ List.replicate (cap - t.size) (Value.int .u8 0)).toArray e (cap, cap + 1)) := by
    rw [hw2, ← hcells]; simp
  refine ⟨⟨w.heap.size, cap, List.replicate (cap - t.size) (Value.int .u8 0), true⟩, w2, ⟨by rw [bv_len]; exact ba_len t, by rw [List.length_replicate]; show t.size + (cap - t.size) = cap; omega⟩, ?_, ?_⟩
  · simp only [execOp, ho]
    refine run_v ?_
    simp only [convert, Sem.run_bind, run_underlying' hu1, run_underlying' hu2, Result.andThen_ok, opd_ok hs (holds_nil _) hx, run_underlying' hue, hstb]
  · exact (hp.calm (ext_push hw2 rfl rfl rfl)).add hget (hp.fresh (Nat.le_refl _)) (.inl hp.ext.size)

/-- One element appended to such a row. -/
theorem Eff.appendM {t e : TypeId} {x1 x2 : Operand} (ho : op.op = .call ⟨.builtin .append, #[x1, x2], #[t, t]⟩) (ht : C.P.underlying t = some (.slice e)) (hsz : (C.P.info? e).map (fun i => (i.size, i.bytes)) = some (1, 1))
    {z : Value} (hz0 : (C.P.info? e).bind (·.zero) = some z) (hzs : z.cells.size = 1) (o : MO) {n : Nat} {xs : List Value} (hok : MOk o n xs) (h1 : opd Γ [] x1 = some (.slice (some ⟨o.b, 0, none⟩) n o.cap))
    {b2 off2 c2 : Nat} (h2 : opd Γ [] x2 = some (.slice (some ⟨b2, off2, none⟩) 1 c2)) (v : Value) (hv : one v = true) (Fl T : List (Nat × Obj)) (hO : O = Fl ++ (o.o e xs ++ T))
    (hsrc : ∀ w, HP C.w0 C.M R O w → w.cell? ⟨b2, off2, none⟩ = some v) (hroom : n + 1 ≤ 140737488355328) :
    Eff C R O Γ op MO (fun o' => .slice (some ⟨o'.b, 0, none⟩) (n + 1) o'.cap) (fun o' => Fl ++ (o'.o e (xs ++ [v]) ++ T)) (fun o' => MOk o' (n + 1) (xs ++ [v])) := by
  have hperm : O.Perm (o.o e xs ++ (Fl ++ T)) := by rw [hO]; exact List.perm_append_comm_assoc _ _ _
  refine Eff.perm (O2 := o.o e xs ++ (Fl ++ T)) (O2' := fun o' => o'.o e (xs ++ [v]) ++ (Fl ++ T)) ?_ hperm (fun x => List.perm_append_comm_assoc _ _ _)
  refine Eff.of_run fun a w hs hp => ?_
  obtain ⟨inf, hi, hse⟩ := Option.map_eq_some_iff.1 hsz
  obtain ⟨inf', hi', hz⟩ := Option.bind_eq_some_iff.1 hz0
  rw [hi] at hi'
  simp only [Option.some.injEq] at hi'
  subst hi'
  simp only [Prod.mk.injEq] at hse
  obtain ⟨hs1, hb1⟩ := hse
  have hnews : ∀ j u, [v][j]? = some u → w.cell? (Addr.add ⟨b2, off2, none⟩ j) = some u := fun j u hj => by
    rw [add_none]
    cases j with
    | zero =>
      simp only [List.getElem?_cons_zero, Option.some.injEq] at hj
      subst hj
      exact hsrc w (hp.perm hperm.symm)
    | succ j => simp at hj
  have hex : ∀ {u : Value} {w' : World}, (Builtin.append_ #[t, t] op.type #[a.eval x1, a.eval x2]).run C.P w = .ok u w' → (execOp a.eval op).run C.P w = .ok (.value u) w' := by
    intro u w' h
    simp [execOp, ho, resolve, invoke, builtin, h]
  have e1 := opd_ok hs (holds_nil _) h1
  have e2 := opd_ok hs (holds_nil _) h2
  have hget : (o.o e xs ++ (Fl ++ T))[0]? = some (o.b, .cells (xs ++ o.junk).toArray e o.fr) := rfl
  have hb := hp.own _ (List.mem_of_getElem? hget)
  have hj := hok.junk
  have hl := hok.len
  by_cases hr : n + 1 ≤ o.cap
  · have hcell : ∀ j, j < 1 → (w.cell? ⟨o.b, 0 + n * inf.size + j, none⟩).isSome = true := fun j hj' => by
      have hlt : 0 + n * inf.size + j < (xs ++ o.junk).toArray.size := by
        rw [hs1]; simp only [List.size_toArray, List.length_append]; omega
      rw [cell_cells hb, Array.getElem?_eq_getElem hlt]; rfl
    have hfz : ∀ j, j < 1 → w.frozen? ⟨o.b, 0 + n * inf.size + j, none⟩ = false := fun j hj' => by
      have hq : ∀ k, k < o.cap → (decide (o.fr.1 ≤ k) && decide (k < o.fr.2)) = false := fun k hk => by
        unfold MO.fr
        cases o.mark with
        | true => simp; omega
        | false => simp
      have := hq (0 + n * inf.size + j) (by rw [hs1]; omega)
      simp only [World.frozen?, hb]
      exact this
    have hrun := run_append_room_cells (P := C.P) w t op.type e inf ht hi o.b 0 n o.cap ⟨b2, off2, none⟩ 1 c2 [v] (by rw [hs1]; rfl) hnews (fun u hu => one_cell (by rw [List.mem_singleton.1 hu]; exact hv)) hr hcell hfz
    refine ⟨⟨o.b, o.cap, o.junk.drop 1, o.mark⟩, _, ⟨by rw [List.length_append, hl]; rfl, by rw [List.length_drop]; show n + 1 + (o.junk.length - 1) = o.cap; omega⟩, hex (by rw [e1, e2]; exact hrun), ?_⟩
    have hnew : (xs ++ o.junk).toArray.setIfInBounds (0 + n * inf.size) v = (xs ++ [v] ++ o.junk.drop 1).toArray := by
      apply Array.ext'
      rw [hs1, Nat.zero_add, Nat.mul_one, ← hl]
      cases hjk : o.junk with
      | nil => rw [hjk] at hj; simp at hj; omega
      | cons y l => simp
    have hset := hp.set 0 (.cells ((xs ++ o.junk).toArray.setIfInBounds (0 + n * inf.size) v) e o.fr) hget (w' := w.setCells o.b (0 + n * inf.size) [v]) (setCell_heap hb) rfl rfl rfl
    rw [hnew] at hset
    exact hset
  · have hp1 : HP C.w0 C.M R (Fl ++ T) w := hp.sub (List.sublist_append_right _ _)
    have holds : ∀ j u, xs[j]? = some u → w.cell? (Addr.add ⟨o.b, 0, none⟩ j) = some u := fun j u hju => by
      rw [add_none, Nat.zero_add, cell_cells hb]
      have hlt : j < xs.length := (List.getElem?_eq_some_iff.1 hju).1
      simp [List.getElem?_append_left hlt, hju]
    have hrun := Go.run_append_grow (P := C.P) w t op.type e inf z ht hi hz ⟨o.b, 0, none⟩ n o.cap xs (by rw [hs1]; omega) holds ⟨b2, off2, none⟩ 1 c2 [v] (by rw [hs1]; rfl) hnews (by omega) (by omega) (growslice_fits (by omega) (by rw [hb1]; omega))
    have hge := grownCap_ge w (n + 1) o.cap e
    have hp2 := (hp1.calm (ext_drew w)).alloc (.cells (xs.toArray ++ [v].toArray ++ Builtin.zeroCells z.cells (grownCap w (n + 1) o.cap e - (n + 1))) e (0, 0))
    refine ⟨⟨w.heap.size, grownCap w (n + 1) o.cap e, (Builtin.zeroCells z.cells (grownCap w (n + 1) o.cap e - (n + 1))).toList, false⟩, _, ⟨by rw [List.length_append, hl]; rfl, by
      show n + 1 + (Builtin.zeroCells z.cells (grownCap w (n + 1) o.cap e - (n + 1))).toList.length = grownCap w (n + 1) o.cap e
      rw [Array.length_toList, zeroCells_size, hzs]; omega⟩, hex (by rw [e1, e2]; exact hrun), ?_⟩
    have e3 : (xs.toArray ++ [v].toArray ++ Builtin.zeroCells z.cells (grownCap w (n + 1) o.cap e - (n + 1))) = (xs ++ [v] ++ (Builtin.zeroCells z.cells (grownCap w (n + 1) o.cap e - (n + 1))).toList).toArray := by
      apply Array.ext'
      simp
    rw [e3] at hp2 ⊢
    exact hp2

/-- A row that make made. -/
theorem Eff.makeRow {t e : TypeId} {l c : Operand} {n : Nat} {cells : Array Value} {v1 v2 : Value} (ho : op.op = .makeSlice t l c) (h1 : opd Γ [] l = some v1) (h2 : opd Γ [] c = some v2)
    (hrun : ∀ w, (Instr.makeSlice t v1 v2).run C.P w = .ok (.slice (some ⟨w.heap.size, 0, none⟩) n n) (w.alloc (.cells cells e (0, 0)))) :
    Eff C R O Γ op Nat (fun b => .slice (some ⟨b, 0, none⟩) n n) (fun b => (b, .cells cells e (0, 0)) :: O) (fun b => C.w0.heap.size ≤ b ∧ b ∉ O.map (·.1)) := by
  refine Eff.of_run fun a w hs hp => ⟨w.heap.size, w.alloc (.cells cells e (0, 0)), ⟨hp.ext.size, hp.fresh (Nat.le_refl _)⟩, ?_, hp.alloc _⟩
  simp only [execOp, ho]
  refine run_v ?_
  rw [opd_ok hs (holds_nil _) h1, opd_ok hs (holds_nil _) h2]
  exact hrun w

end
end K
end Go.Proofs.YtoopekjbikcebaaDoor
