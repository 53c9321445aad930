/- Maps with int keys: looked up, written, made, cleared. -/
import Derived.Test.YtnoipbbcpiaemaaK20
import Derived.MapKept
namespace Go.Proofs.Ytnoipbbcpiaemaa
namespace K
open Go.MapKept

/-- What stands in a map, in the order in which it came. -/
structure MapOk (es : Array MapEntry) (ck : Nat) (W : List (Int × Value)) : Prop where
  rel : es.toList.map (fun e => (e.key, e.val)) = W.map fun p => (Value.int .i64 p.1, p.2)
  st : Stamped es ck
def mfind (k : Int) : List (Int × Value) → Nat → Option (Nat × Value)
  | [], _ => none
  | p :: W, i => if k = p.1 then some (i, p.2) else mfind k W (i + 1)
def mget (W : List (Int × Value)) (k : Int) : Option Value := match W with
  | [] => none
  | p :: W => if k = p.1 then some p.2 else mget W k
def mset (W : List (Int × Value)) (k : Int) (v : Value) : List (Int × Value) := match W with
  | [] => [(k, v)]
  | p :: W => if k = p.1 then (k, v) :: W else p :: mset W k v

theorem mfind_get (k : Int) : ∀ (W : List (Int × Value)) (i : Nat), (mfind k W i).map (·.2) = mget W k
  | [], _ => rfl
  | p :: W, i => by
    unfold mfind mget
    split
    · rfl
    · exact mfind_get k W (i + 1)
theorem mget_set (W : List (Int × Value)) (k : Int) (v : Value) (j : Int) : mget (mset W k v) j = if j = k then some v else mget W j := by
  induction W with
  | nil => simp [mset, mget]
  | cons p W ih =>
    unfold mset
    by_cases h : k = p.1
    · rw [if_pos h]
      unfold mget
      by_cases hj : j = k
      · rw [if_pos hj, if_pos hj]
      · simp only [if_neg hj]
        rw [if_neg (show ¬ j = p.1 from fun e => hj (by rw [e, h]))]
    · rw [if_neg h]
      unfold mget
      by_cases hj : j = p.1
      · rw [if_pos hj, if_neg (fun e => h (by rw [← e, hj])), if_pos hj]
      · rw [if_neg hj, if_neg hj, ih]
theorem mset_keys {W : List (Int × Value)} {k : Int} {v : Value} : ∀ p ∈ mset W k v, p.1 = k ∨ p ∈ W := by
  induction W with
  | nil => intro p hp; rw [mset] at hp; rw [List.mem_singleton.1 hp]; exact .inl rfl
  | cons q W ih =>
    intro p hp
    unfold mset at hp
    split at hp
    · rcases List.mem_cons.1 hp with rfl | hp
      · exact .inl rfl
      · exact .inr (List.mem_cons_of_mem _ hp)
    · rcases List.mem_cons.1 hp with rfl | hp
      · exact .inr (List.mem_cons_self ..)
      · rcases ih p hp with h | h
        · exact .inl h
        · exact .inr (List.mem_cons_of_mem _ h)
theorem mset_len (W : List (Int × Value)) (k : Int) (v : Value) : (mset W k v).length ≤ W.length + 1 := by
  induction W with
  | nil => exact Nat.le_refl _
  | cons q W ih =>
    unfold mset
    split
    · simp
    · simp only [List.length_cons]; omega

theorem findNow_of (q : IntKind) (k : Int) : ∀ (es : List MapEntry) (W : List (Int × Value)) (i : Nat), es.map (fun e => (e.key, e.val)) = W.map (fun p => (Value.int .i64 p.1, p.2)) → Instr.findNow (.int q) (.int .i64 k) es i = some (mfind k W i)
  | [], [], _, _ => rfl
  | [], _ :: _, _, h => by simp at h
  | _ :: _, [], _, h => by simp at h
  | e :: es, p :: W, i, h => by
    simp only [List.map_cons, List.cons.injEq, Prod.mk.injEq] at h
    obtain ⟨⟨h1, h2⟩, h3⟩ := h
    unfold Instr.findNow mfind
    rw [h1]
    simp only [Instr.sameNow, if_true]
    by_cases hk : k = p.1
    · subst hk; simp [h2]
    · rw [if_neg hk, show (k == p.1) = false from beq_eq_false_iff_ne.2 hk]
      exact findNow_of q k es W (i + 1) h3
theorem mfind_some {k : Int} : ∀ {W : List (Int × Value)} {i j : Nat} {v : Value}, mfind k W i = some (j, v) → i ≤ j ∧ W[j - i]? = some (k, v)
  | [], _, _, _, h => by cases h
  | p :: W, i, j, v, h => by
    unfold mfind at h
    split at h
    · rename_i hk
      simp only [Option.some.injEq, Prod.mk.injEq] at h
      obtain ⟨rfl, rfl⟩ := h
      refine ⟨Nat.le_refl _, ?_⟩
      rw [Nat.sub_self, List.getElem?_cons_zero, hk]
    · obtain ⟨h1, h2⟩ := mfind_some h
      refine ⟨by omega, ?_⟩
      rw [show j - i = (j - (i + 1)) + 1 by omega, List.getElem?_cons_succ]; exact h2
theorem mfind_set {k : Int} (u : Value) : ∀ {W : List (Int × Value)} {i j : Nat} {v : Value}, mfind k W i = some (j, v) → mset W k u = W.set (j - i) (k, u)
  | [], _, _, _, h => by cases h
  | p :: W, i, j, v, h => by
    unfold mfind at h
    unfold mset
    split at h
    · rename_i hk
      simp only [Option.some.injEq, Prod.mk.injEq] at h
      obtain ⟨rfl, rfl⟩ := h
      rw [if_pos hk, Nat.sub_self, List.set_cons_zero]
    · rename_i hk
      have h1 := (mfind_some h).1
      rw [if_neg hk, mfind_set u h, show j - i = (j - (i + 1)) + 1 by omega, List.set_cons_succ]
theorem mfind_none {k : Int} (u : Value) : ∀ {W : List (Int × Value)} {i : Nat}, mfind k W i = none → mset W k u = W ++ [(k, u)] ∧ ∀ p ∈ W, p.1 ≠ k
  | [], _, _ => ⟨rfl, fun p h => by cases h⟩
  | p :: W, i, h => by
    unfold mfind at h
    unfold mset
    split at h
    · cases h
    · rename_i hk
      obtain ⟨h1, h2⟩ := mfind_none u h
      rw [if_neg hk, h1]
      refine ⟨rfl, fun q hq => ?_⟩
      rcases List.mem_cons.1 hq with rfl | hq
      · exact fun e => hk e.symm
      · exact h2 q hq

section
variable {P : Program} {w : World}

theorem int_key {q : IntKind} {k : Int} {kt : TypeId} (hd : P.underlying kt = some (.int q)) (e : Bool) : (Instr.checkKey e 10000 kt (.int .i64 k)).run P w = .ok () w := by
  show (Instr.checkKey e (9999 + 1) kt (.int .i64 k)).run P w = _
  unfold Instr.checkKey
  simp only [Sem.run_bind, run_underlying' hd, Result.andThen_ok]; rfl
theorem int_find {q : IntKind} {k : Int} {kt : TypeId} (hd : P.underlying kt = some (.int q)) {es : Array MapEntry} {ck : Nat} {W : List (Int × Value)} (h : MapOk es ck W) : (Instr.findKey kt (.int .i64 k) es.toList).run P w = .ok (mfind k W 0) w := by
  unfold Instr.findKey
  simp only [Sem.run_bind, run_underlying' hd, Result.andThen_ok, findNow_of q k _ _ 0 h.rel]; rfl

theorem run_lookup {t kt e : TypeId} {q : IntKind} {k : Int} {r : Nat} {es : Array MapEntry} {ck : Nat} {W : List (Int × Value)} {z : Value} (hm : P.underlying t = some (.map kt e)) (hd : P.underlying kt = some (.int q)) (hz0 : (P.info? e).bind (·.zero) = some z) (hb : w.heap[r]? = some (.map es ck)) (h : MapOk es ck W) (ok : Bool) :
    (Instr.lookup t (.map (some r)) (.int .i64 k) ok).run P w = .ok (if ok then .tuple #[(mget W k).getD z, .bool (mget W k).isSome] else (mget W k).getD z) w := by
  obtain ⟨inf, hi, hz⟩ := Option.bind_eq_some_iff.1 hz0
  have hzv : (zeroValue e).run P w = .ok z w := by simp [zeroValue, typeInfo, program, Sem.run, hi, hz]
  unfold Instr.lookup
  simp only [Sem.run_bind, run_underlying' hm, Result.andThen_ok, Go.MapKept.run_getObj_map hb, Sem.run_pure, int_key hd, int_find hd h]
  rw [← mfind_get k W 0]
  cases mfind k W 0 with
  | none => simp only [Sem.run_bind, hzv, Result.andThen_ok, Sem.run_pure]; cases ok <;> rfl
  | some p => cases ok <;> rfl

theorem run_mapUpdate {t kt e : TypeId} {q : IntKind} {k : Int} {v : Value} {r : Nat} {es : Array MapEntry} {ck : Nat} {W : List (Int × Value)} (hm : P.underlying t = some (.map kt e)) (hd : P.underlying kt = some (.int q)) (hb : w.heap[r]? = some (.map es ck)) (h : MapOk es ck W) :
    ∃ es' ck', MapOk es' ck' (mset W k v) ∧ (Instr.mapUpdate t (.map (some r)) (.int .i64 k) v).run P w = .ok () { w with heap := w.heap.setIfInBounds r (.map es' ck') } := by
  cases hf : mfind k W 0 with
  | none =>
    obtain ⟨h1, h2⟩ := mfind_none v hf
    refine ⟨es.push { key := .int .i64 k, val := v, born := ck }, ck + 1, ⟨?_, stamped_push h.st ?_⟩, ?_⟩
    · rw [Array.toList_push, List.map_append, h.rel, h1, List.map_append]; rfl
    · intro x hx hk
      have hx2 : (x.key, x.val) ∈ W.map fun p => (Value.int .i64 p.1, p.2) := by rw [← h.rel]; exact List.mem_map.2 ⟨x, hx, rfl⟩
      obtain ⟨p, hp, he⟩ := List.mem_map.1 hx2
      simp only [Prod.mk.injEq] at he
      rw [hk] at he
      have := he.1
      simp only [Value.int.injEq, true_and] at this
      exact h2 p hp this
    · simp only [Instr.mapUpdate, Sem.run_bind, run_underlying' hm, Result.andThen_ok, Go.MapKept.run_getObj_map hb, int_key hd, int_find hd h, hf, Go.MapKept.run_setObj_map _ hb]
  | some jp =>
    obtain ⟨j, u⟩ := jp
    obtain ⟨_, hW⟩ := mfind_some hf
    rw [Nat.sub_zero] at hW
    have hlen : es.toList.length = W.length := by have := congrArg List.length h.rel; simpa using this
    have hjW : j < W.length := (List.getElem?_eq_some_iff.1 hW).1
    have hj : j < es.size := by rw [← Array.length_toList]; omega
    have hej : (es[j].key, es[j].val) = (Value.int .i64 k, u) := by
      have h3 : (es.toList.map (fun e => (e.key, e.val)))[j]? = (W.map fun p => (Value.int .i64 p.1, p.2))[j]? := by rw [h.rel]
      rw [List.getElem?_map, List.getElem?_map, hW, Array.getElem?_toList, Array.getElem?_eq_getElem hj] at h3
      simpa using h3
    simp only [Prod.mk.injEq] at hej
    have hkt : (Instr.keyThatStays (((es[j]?).map (·.key)).getD (.int .i64 k)) (.int .i64 k)).run P w = .ok (.int .i64 k) w := by
      rw [Array.getElem?_eq_getElem hj, Option.map_some, Option.getD_some, hej.1]
      exact run_keyThatStays (d := .int .i64) (by first | trivial | rfl | exact ⟨_, rfl⟩)
    refine ⟨es.modify j (fun e => { e with key := .int .i64 k, val := v }), ck, ⟨?_, stamped_modify h.st j _ (fun _ _ => rfl) (fun e _ hge => by rw [Array.getElem?_eq_getElem hj] at hge; cases hge; exact hej.1.symm)⟩, ?_⟩
    · rw [mfind_set v hf, Nat.sub_zero, List.map_set, ← h.rel]
      apply List.ext_getElem?
      intro q
      simp only [List.getElem?_map, Array.getElem?_toList, Array.getElem?_modify, List.getElem?_set, List.length_map, Array.length_toList]
      by_cases hq : j = q
      · subst hq; simp [hj]
      · simp [hq]
    · simp only [Instr.mapUpdate, Sem.run_bind, run_underlying' hm, Result.andThen_ok, Go.MapKept.run_getObj_map hb, int_key hd, int_find hd h, hf, hkt, Go.MapKept.run_setObj_map _ hb]
end

section
variable {C : Cx} {R O : List (Nat × Obj)} {Γ : Env} {op : Oper}

/-- A map looked up. -/
theorem Eff.mapGet {t kt e : TypeId} {q : IntKind} {x y : Operand} {ok : Bool} (ho : op.op = .lookup t x y ok) (hm : C.P.underlying t = some (.map kt e)) (hd : C.P.underlying kt = some (.int q)) {z : Value} (hz0 : (C.P.info? e).bind (·.zero) = some z) {r : Nat} {k : Int} (hx : opd Γ [] x = some (.map (some r))) (hy : opd Γ [] y = some (.int .i64 k))
    {es : Array MapEntry} {ck : Nat} {W : List (Int × Value)} (h : MapOk es ck W) (hb : ∀ w, HP C.w0 C.M R O w → w.heap[r]? = some (.map es ck)) :
    Eff C R O Γ op Unit (fun _ => if ok then .tuple #[(mget W k).getD z, .bool (mget W k).isSome] else (mget W k).getD z) (fun _ => O) (fun _ => True) :=
  Eff.of_run fun a w hs hp => ⟨(), w, trivial, by
    simp only [execOp, ho]
    refine run_v ?_
    rw [opd_ok hs (holds_nil _) hx, opd_ok hs (holds_nil _) hy]
    exact run_lookup hm hd hz0 (hb w hp) h ok, hp⟩

/-- A map looked up at a key that it has. -/
theorem Eff.mapGetV {t kt e : TypeId} {q : IntKind} {x y : Operand} (ho : op.op = .lookup t x y false) (hm : C.P.underlying t = some (.map kt e)) (hd : C.P.underlying kt = some (.int q)) {z : Value} (hz0 : (C.P.info? e).bind (·.zero) = some z) {r : Nat} {k : Int} (hx : opd Γ [] x = some (.map (some r))) (hy : opd Γ [] y = some (.int .i64 k))
    {es : Array MapEntry} {ck : Nat} {W : List (Int × Value)} (h : MapOk es ck W) (hb : ∀ w, HP C.w0 C.M R O w → w.heap[r]? = some (.map es ck)) {v : Value} (hv : mget W k = some v) :
    Eff C R O Γ op Unit (fun _ => v) (fun _ => O) (fun _ => True) := by
  have h1 := Eff.mapGet (z := z) ho hm hd hz0 hx hy h hb
  rw [hv] at h1
  exact h1

/-- A map written. -/
theorem Eff.mapSet {t kt e : TypeId} {q : IntKind} {x y v : Operand} (ho : op.op = .mapUpdate t x y v) (hm : C.P.underlying t = some (.map kt e)) (hd : C.P.underlying kt = some (.int q)) {r : Nat} {k : Int} {u : Value} (hx : opd Γ [] x = some (.map (some r))) (hy : opd Γ [] y = some (.int .i64 k)) (hv : opd Γ [] v = some u)
    {es : Array MapEntry} {ck : Nat} {W : List (Int × Value)} (h : MapOk es ck W) (i : Nat) (hO : O[i]? = some (r, .map es ck)) :
    Eff C R O Γ op (Array MapEntry × Nat) (fun _ => undef) (fun x => O.set i (r, .map x.1 x.2)) (fun x => MapOk x.1 x.2 (mset W k u)) := by
  refine Eff.of_skip fun a w hs hp => ?_
  obtain ⟨es', ck', h1, h2⟩ := run_mapUpdate (v := u) (k := k) hm hd (hp.own _ (List.mem_of_getElem? hO)) h
  refine ⟨(es', ck'), _, h1, ?_, hp.set i (.map es' ck') hO (w' := { w with heap := w.heap.setIfInBounds r (.map es' ck') }) rfl rfl rfl rfl⟩
  have e1 := opd_ok hs (holds_nil _) hx
  have e2 := opd_ok hs (holds_nil _) hy
  have e3 := opd_ok hs (holds_nil _) hv
  simp [execOp, ho, e1, e2, e3, h2]

/-- A new map. -/
theorem Eff.mapNew {t : TypeId} (ho : op.op = .makeMap t none) : Eff C R O Γ op Nat (fun b => .map (some b)) (fun b => (b, .map #[] 0) :: O) (fun b => C.w0.heap.size ≤ b ∧ b ∉ O.map (·.1)) := by
  refine Eff.of_run fun a w hs hp => ⟨w.heap.size, w.alloc (.map #[] 0), ⟨hp.ext.size, hp.fresh (Nat.le_refl _)⟩, ?_, hp.alloc _⟩
  simp [execOp, ho, Instr.makeMap, newObj, Sem.run]
theorem MapOk.empty (ck : Nat) : MapOk #[] ck [] := ⟨rfl, stamped_empty ck⟩

/-- A map cleared. -/
theorem Eff.mapClear {t kt e : TypeId} {x : Operand} (ho : op.op = .call ⟨.builtin .clear, #[x], #[t]⟩) (hm : C.P.underlying t = some (.map kt e)) {r : Nat} (hx : opd Γ [] x = some (.map (some r))) {es : Array MapEntry} {ck : Nat} (i : Nat) (hO : O[i]? = some (r, .map es ck)) :
    Eff C R O Γ op Unit (fun _ => .tuple #[]) (fun _ => O.set i (r, .map #[] ck)) (fun _ => True) := by
  refine Eff.of_run fun a w hs hp => ?_
  have hb := hp.own _ (List.mem_of_getElem? hO)
  refine ⟨(), _, trivial, ?_, hp.set i (.map #[] ck) hO (w' := { w with heap := w.heap.setIfInBounds r (.map #[] ck) }) rfl rfl rfl rfl⟩
  have hr' : (Builtin.clear_ #[t] op.type #[.map (some r)]).run C.P w = .ok (.tuple #[]) { w with heap := w.heap.setIfInBounds r (.map #[] ck) } := by
    simp [Builtin.clear_, run_underlying' hm, Go.MapKept.run_getObj_map hb, Go.MapKept.run_setObj_map _ hb]
  simp [execOp, ho, resolve, invoke, builtin, opd_ok hs (holds_nil _) hx, hr']
end
end K
end Go.Proofs.Ytnoipbbcpiaemaa
