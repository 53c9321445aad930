/- A call that changes one block and gives a new slice; slices of one's own as rows that are read. -/
import Derived.Test.YtoopekjbikcebaaDoorK14
namespace Go.Proofs.YtoopekjbikcebaaDoor
namespace K
section
variable {C : Cx} {R O : List (Nat × Obj)} {Γ : Env} {op : Oper}

theorem set_mid (L1 L2 : List (Nat × Obj)) (x y : Nat × Obj) : (L1 ++ (x :: L2)).set L1.length y = L1 ++ (y :: L2) := by
  rw [List.set_append_right _ _ (Nat.le_refl _)]; simp

/-- The memory behind a call that changed block b and made a slice. -/
theorem HP.mutOwn {w0 w w' : World} {M : List Nat} {L1 L2 Gs : List (Nat × Obj)} {b : Nat} {ob ob' : Obj} (h : HP w0 M R (L1 ++ ((b, ob) :: (L2 ++ Gs))) w) (hx : Ext [b] w w') (hb : w'.heap[b]? = some ob') {o : Own} {e : TypeId} {xs : List Value} (hh : Has w' (o.o e xs)) (hf : ∀ x ∈ o.o e xs, w.heap.size ≤ x.1) :
    HP w0 M R (L1 ++ ((b, ob') :: (L2 ++ (o.o e xs ++ Gs)))) w' := by
  have h1 := h.mut L1.length (b := b) (o := ob) (o' := ob') (by simp) hx hb
  rw [set_mid] at h1
  cases o with
  | none => exact h1
  | some p =>
    have hp := hh _ (List.mem_cons_self ..)
    have hs := hf _ (List.mem_cons_self ..)
    have h2 := h1.add hp (by
      intro hm
      obtain ⟨x, hxm, hxe⟩ := List.mem_map.1 hm
      have : x.1 < w.heap.size := by
        rcases List.mem_append.1 hxm with hxm | hxm
        · exact lt_of_get (h.own x (List.mem_append_left _ hxm))
        · rcases List.mem_cons.1 hxm with rfl | hxm
          · exact lt_of_get (h.own (b, ob) (List.mem_append_right _ (List.mem_cons_self ..)))
          · exact lt_of_get (h.own x (List.mem_append_right _ (List.mem_cons_of_mem _ hxm)))
      have hxe' : x.1 = p.1 := hxe
      simp only at hs
      omega) (.inl (Nat.le_trans h.ext.size hs))
    refine h2.perm ?_
    have e1 : (L1 ++ ((b, ob') :: (L2 ++ (Own.o e xs (some p) ++ Gs)))) = (L1 ++ ((b, ob') :: L2)) ++ ((p.1, .cells (xs ++ p.2.2).toArray e (0, 0)) :: Gs) := by simp [Own.o]
    have e2 : (L1 ++ ((b, ob') :: (L2 ++ Gs))) = (L1 ++ ((b, ob') :: L2)) ++ Gs := by simp
    rw [e1, e2]
    exact List.perm_middle.symm

theorem Eff.callMO {f : FuncId} {fn : Func} {c : Code} {xs : List Operand} {tys : Array TypeId} {vs : List Value} (e : TypeId) (sz n : Nat) (cells : List Value) (L1 L2 Gs : List (Nat × Obj)) {b : Nat} {ob : Obj} (ob' : Obj) (hO : O = L1 ++ ((b, ob) :: (L2 ++ Gs)))
    (ho : op.op = .call ⟨.value (.func f), xs.toArray, tys⟩) (hf : C.P.funcs[f]? = some fn) (hnm : (fn.name == "runtime.NumGoroutine") = false) (hb : fn.body = some c) (hx : opds Γ xs = some vs)
    (h : ∀ w, HP C.w0 C.M R O w → Calls C.P f vs.toArray w fun en w' => ∃ o : Own, OwnOk o sz n cells ∧ en = .returned (.slice o.a n o.c) ∧ Ext [b] w w' ∧ w'.heap[b]? = some ob' ∧ Has w' (o.o e cells) ∧ (∀ x ∈ o.o e cells, w.heap.size ≤ x.1)) :
    Eff C R O Γ op Own (fun o => .slice o.a n o.c) (fun o => L1 ++ ((b, ob') :: (L2 ++ (o.o e cells ++ Gs)))) (fun o => OwnOk o sz n cells) :=
  Eff.call ho hf hnm hb hx fun w hp => (h w hp).mono fun _ _ hh => by
    obtain ⟨o, hok, he, h1, h2, h3, h4⟩ := hh
    rw [hO] at hp
    exact ⟨o, hok, he, hp.mutOwn h1 h2 h3 h4⟩
end

/-- A slice of one's own, as a row that is read. -/
theorem own_ins {o : Own} {e : TypeId} {n : Nat} {xs : List Value} {f : Nat → Value} (hok : OwnOk o 1 n xs) (hf : ∀ j, j < n → xs[j]? = some (f j)) : InS (o.o e xs) o.a n f := by
  intro hn
  obtain ⟨p, rfl⟩ := own_some hok hn
  refine ⟨p.1, 0, _, e, (0, 0), rfl, List.mem_cons_self .., fun j hj => ?_⟩
  have hl : xs.length = n := by simpa using hok.len
  rw [Nat.zero_add]
  simp only [List.getElem?_toArray]
  rw [List.getElem?_append_left (by omega)]
  exact hf j hj
end K
end Go.Proofs.YtoopekjbikcebaaDoor
