/- Slices of the call's own: append. -/
import Derived.Test.YtoopekjbikcebaaDoorK9
namespace Go.Proofs.YtoopekjbikcebaaDoor
namespace K

/-- A slice of one's own: none, or its block, its capacity, and the cells behind its elements. -/
abbrev Own := Option (Nat × Nat × List Value)
def Own.a : Own → Option Addr
  | none => none
  | some p => some ⟨p.1, 0, none⟩
def Own.c : Own → Nat
  | none => 0
  | some p => p.2.1
def Own.o (e : TypeId) (xs : List Value) : Own → List (Nat × Obj)
  | none => []
  | some p => [(p.1, .cells (xs ++ p.2.2).toArray e (0, 0))]

structure OwnOk (o : Own) (sz n : Nat) (xs : List Value) : Prop where
  len : xs.length = n * sz
  nil : o = none → n = 0
  some : ∀ p, o = some p → xs.length + p.2.2.length = p.2.1 * sz ∧ n ≤ p.2.1

theorem OwnOk.none (sz : Nat) : OwnOk none sz 0 [] := ⟨by simp, fun _ => rfl, fun _ h => by cases h⟩

theorem zeroCells_size (z : Array Value) (n : Nat) : (Builtin.zeroCells z n).size = n * z.size := by simp [Builtin.zeroCells]

section
variable {C : Cx} {R O : List (Nat × Obj)} {Γ : Env} {op : Oper}

theorem one_cell {v : Value} (h : one v = true) : v.oneCell' = true := by cases v <;> first | rfl | simp [one] at h

theorem setRow_get {w : World} {g : Nat} {cur cs : Array Value} {e : TypeId} (hg : w.heap[g]? = some (.cells cur e (0, 0))) : (w.setRow g cs).heap = w.heap.setIfInBounds g (.cells cs e (0, 0)) := by
  apply Array.ext_getElem?
  intro k
  by_cases hk : g = k
  · subst hk
    rw [setRow_heap w g cur cs e _ hg]; simp [lt_of_get hg]
  · rw [setRow_other w g k cs (fun h => hk h.symm)]; simp [hk]

/-- append onto a slice of one's own. -/
theorem Eff.append {t e : TypeId} {x1 x2 : Operand} (ho : op.op = .call ⟨.builtin .append, #[x1, x2], #[t, t]⟩) (sz bytes : Nat) (ht : C.P.underlying t = some (.slice e)) (hsz : (C.P.info? e).map (fun i => (i.size, i.bytes)) = some (sz, bytes))
    {z : Value} (hz0 : (C.P.info? e).bind (·.zero) = some z) (hzs : z.cells.size = sz) (own : Own) {n : Nat} {xs : List Value} (hok : OwnOk own sz n xs) (h1 : opd Γ [] x1 = some (.slice own.a n own.c))
    {b2 off2 m c2 : Nat} (h2 : opd Γ [] x2 = some (.slice (some ⟨b2, off2, none⟩) m c2)) (news : List Value) (hl : news.length = m * sz) (hone : ∀ v ∈ news, one v = true)
    (hsrc : ∀ w, HP C.w0 C.M R O w → ∀ j v, news[j]? = some v → w.cell? ⟨b2, off2 + j, none⟩ = some v) (O1 : List (Nat × Obj)) (hO : O = own.o e xs ++ O1) (hroom : (n + m) * bytes ≤ 140737488355328) (h63 : n + m ≤ 9223372036854775807) :
    Eff C R O Γ op Own (fun o => .slice o.a (n + m) o.c) (fun o => o.o e (xs ++ news) ++ O1) (fun o => OwnOk o sz (n + m) (xs ++ news)) := by
  refine Eff.of_run fun a w hs hp => ?_
  obtain ⟨inf, hi, hse⟩ := Option.map_eq_some_iff.1 hsz
  obtain ⟨inf', hi', hz⟩ := Option.bind_eq_some_iff.1 hz0
  rw [hi] at hi'
  simp only [Option.some.injEq] at hi'
  subst hi'
  simp only [Prod.mk.injEq] at hse
  obtain ⟨rfl, rfl⟩ := hse
  have hnews : ∀ j v, news[j]? = some v → w.cell? (Addr.add ⟨b2, off2, none⟩ j) = some v := fun j v hj => by rw [add_none]; exact hsrc w hp j v hj
  have hlen : (xs ++ news).length = (n + m) * inf.size := by rw [List.length_append, hok.len, hl, Nat.add_mul]
  have hex : ∀ {v : Value} {w' : World}, (Builtin.append_ #[t, t] op.type #[a.eval x1, a.eval x2]).run C.P w = .ok v w' → (execOp a.eval op).run C.P w = .ok (.value v) w' := by
    intro v w' h
    simp [execOp, ho, resolve, invoke, builtin, h]
  have e1 := opd_ok hs (holds_nil _) h1
  have e2 := opd_ok hs (holds_nil _) h2
  have fresh : ∀ (c : Nat), n + m ≤ c → HP C.w0 C.M R O1 w → HP C.w0 C.M R (Own.o e (xs ++ news) (some (w.heap.size, c, (Builtin.zeroCells z.cells (c - (n + m))).toList)) ++ O1) (w.drew.alloc (.cells (xs.toArray ++ news.toArray ++ Builtin.zeroCells z.cells (c - (n + m))) e)) ∧
      OwnOk (some (w.heap.size, c, (Builtin.zeroCells z.cells (c - (n + m))).toList)) inf.size (n + m) (xs ++ news) := by
    intro c hc hp1
    have hp2 := (hp1.calm (ext_drew w)).alloc (.cells (xs.toArray ++ news.toArray ++ Builtin.zeroCells z.cells (c - (n + m))) e (0, 0))
    refine ⟨?_, hlen, fun h => (by cases h), fun p hp' => ?_⟩
    · have e3 : (xs.toArray ++ news.toArray ++ Builtin.zeroCells z.cells (c - (n + m))) = (xs ++ news ++ (Builtin.zeroCells z.cells (c - (n + m))).toList).toArray := by
        apply Array.ext'
        simp
      rw [e3] at hp2 ⊢
      exact hp2
    · simp only [Option.some.injEq] at hp'
      subst hp'
      refine ⟨?_, hc⟩
      simp only [Array.length_toList, zeroCells_size, hzs, hlen, ← Nat.add_mul]
      congr 1
      omega
  cases own with
  | none =>
    have hn := hok.nil rfl
    subst hn
    have hx : xs = [] := List.eq_nil_of_length_eq_zero (by simpa using hok.len)
    subst hx
    simp only [Own.o, List.nil_append] at hO
    subst hO
    by_cases hm : m = 0
    · subst hm
      have hnn : news = [] := List.eq_nil_of_length_eq_zero (by simpa using hl)
      subst hnn
      refine ⟨none, w, OwnOk.none _, hex ?_, hp⟩
      rw [e1, e2]
      simp [Builtin.append_, run_underlying' ht, run_sizeOf' hi, Builtin.lenOf, Builtin.firstCells, loadCells, loadCellsFrom, Own.a, Own.c]
    · obtain ⟨f1, f2⟩ := fresh (grownCap w m 0 e) (by have := grownCap_ge w m 0 e; omega) hp
      refine ⟨some (w.heap.size, grownCap w m 0 e, _), _, f2, hex ?_, f1⟩
      rw [e1, e2]
      have hr := run_append_nil (P := C.P) w t op.type e inf z ht hi hz ⟨b2, off2, none⟩ m c2 news hl hnews (by omega) (by omega) (by simp only [Nat.zero_add] at hroom; omega)
      simp only [Own.a, Own.c, Nat.zero_add, Array.empty_append] at hr ⊢
      exact hr
  | some p =>
    obtain ⟨b, cap, junk⟩ := p
    obtain ⟨hj, hnc⟩ := hok.some _ rfl
    simp only at hj hnc
    have hget : O[0]? = some (b, .cells (xs ++ junk).toArray e (0, 0)) := by rw [hO]; rfl
    have hb := hp.own _ (List.mem_of_getElem? hget)
    have hp1 : HP C.w0 C.M R O1 w := hp.sub (by rw [hO]; exact List.sublist_append_right _ _)
    by_cases hr : n + m ≤ cap
    · have hfit : n * inf.size + news.length ≤ (xs ++ junk).toArray.size := by
        simp only [List.size_toArray, List.length_append, hj, hl, ← Nat.add_mul]
        exact Nat.mul_le_mul_right _ hr
      have hrun := Go.run_append_room (P := C.P) w t op.type e inf ht hi b n cap (xs ++ junk).toArray hb ⟨b2, off2, none⟩ m c2 news hl hnews (fun u hu => one_cell (hone u hu)) hr hfit
      have e3 : ((xs ++ junk).toArray.toList.take (n * inf.size) ++ news ++ (xs ++ junk).toArray.toList.drop (n * inf.size + news.length)) = xs ++ news ++ junk.drop news.length := by
        rw [← hok.len]
        simp [List.drop_append, List.drop_eq_nil_of_le (show xs.length ≤ xs.length + news.length by omega)]
      rw [e3] at hrun
      refine ⟨some (b, cap, junk.drop news.length), _, ⟨hlen, fun h => (by cases h), fun p hp' => ?_⟩, hex (by rw [e1, e2]; exact hrun), ?_⟩
      · simp only [Option.some.injEq] at hp'
        subst hp'
        refine ⟨?_, hr⟩
        have hle : news.length ≤ junk.length := by
          simp only [List.size_toArray, List.length_append, ← hok.len] at hfit
          omega
        simp only [List.length_append, List.length_drop]
        omega
      · have := hp.set 0 (.cells (xs ++ news ++ junk.drop news.length).toArray e (0, 0)) hget (setRow_get hb) rfl rfl rfl
        rw [hO] at this
        exact this
    · obtain ⟨f1, f2⟩ := fresh (grownCap w (n + m) cap e) (grownCap_ge w (n + m) cap e) hp1
      have holds : ∀ j v, xs[j]? = some v → w.cell? (Addr.add ⟨b, 0, none⟩ j) = some v := fun j v hjv => by
        rw [add_none, Nat.zero_add, cell_cells hb]
        have hlt : j < xs.length := (List.getElem?_eq_some_iff.1 hjv).1
        simp [List.getElem?_append_left hlt, hjv]
      have hrun := Go.run_append_grow (P := C.P) w t op.type e inf z ht hi hz ⟨b, 0, none⟩ n cap xs hok.len holds ⟨b2, off2, none⟩ m c2 news hl hnews (by omega) (by omega) (growslice_fits (by omega) hroom)
      exact ⟨some (w.heap.size, grownCap w (n + m) cap e, _), _, f2, hex (by rw [e1, e2]; exact hrun), f1⟩

theorem own_some {o : Own} {sz n : Nat} {xs : List Value} (h : OwnOk o sz n xs) (hn : 0 < n) : ∃ p, o = some p := by
  cases o with
  | none => have := h.nil rfl; omega
  | some p => exact ⟨p, rfl⟩

def Has (w : World) (L : List (Nat × Obj)) : Prop := ∀ e ∈ L, w.heap[e.1]? = some e.2

theorem HP.ofHas {w : World} {L : List (Nat × Obj)} (h : Has w L) : HP w [] L [] w :=
  ⟨Ext.refl _ _, h, fun e he => ⟨lt_of_get (h e he), by simp⟩, (fun _ h => by cases h), by simp, (fun _ h => by cases h)⟩

theorem HP.has {w0 w : World} {M : List Nat} {L : List (Nat × Obj)} (h : HP w0 M R O w) (hL : ∀ e ∈ L, e ∈ O) : Has w L := fun e he => h.own e (hL e he)
theorem HP.hasR {w0 w : World} {M : List Nat} {L : List (Nat × Obj)} (h : HP w0 M R O w) (hL : ∀ e ∈ L, e ∈ R) : Has w L := fun e he => h.ro e (hL e he)

theorem Own.o_one (o : Own) (e : TypeId) (xs : List Value) : ∀ x ∈ o.o e xs, ∀ y ∈ o.o e xs, x = y := by
  cases o with
  | none => intro x hx; cases hx
  | some p => intro x hx y hy; simp [Own.o] at hx hy; rw [hx, hy]

/-- A slice that a call gives: its own. -/
theorem HP.addOwn {w0 w w' : World} {M : List Nat} (h : HP w0 M R O w) (hx : Ext [] w w') {o : Own} {e : TypeId} {xs : List Value} (hh : Has w' (o.o e xs)) (hf : ∀ x ∈ o.o e xs, w.heap.size ≤ x.1) : HP w0 M R (o.o e xs ++ O) w' := by
  have h1 := h.calm hx
  cases o with
  | none => exact h1
  | some p =>
    have hb := hh _ (List.mem_cons_self ..)
    have hs := hf _ (List.mem_cons_self ..)
    exact h1.add hb (h.fresh hs) (.inl (Nat.le_trans h.ext.size hs))

theorem Eff.callO {f : FuncId} {fn : Func} {c : Code} {xs : List Operand} {tys : Array TypeId} {vs : List Value} (e : TypeId) (sz n : Nat) (cells : List Value) (ho : op.op = .call ⟨.value (.func f), xs.toArray, tys⟩) (hf : C.P.funcs[f]? = some fn)
    (hnm : (fn.name == "runtime.NumGoroutine") = false) (hb : fn.body = some c) (hx : opds Γ xs = some vs)
    (h : ∀ w, HP C.w0 C.M R O w → Calls C.P f vs.toArray w fun en w' => ∃ o : Own, OwnOk o sz n cells ∧ en = .returned (.slice o.a n o.c) ∧ Has w' (o.o e cells) ∧ (∀ x ∈ o.o e cells, w.heap.size ≤ x.1) ∧ Ext [] w w') :
    Eff C R O Γ op Own (fun o => .slice o.a n o.c) (fun o => o.o e cells ++ O) (fun o => OwnOk o sz n cells) :=
  Eff.call ho hf hnm hb hx fun w hp => (h w hp).mono fun _ _ hh => by
    obtain ⟨o, hok, he, h1, h2, h3⟩ := hh
    exact ⟨o, hok, he, hp.addOwn h3 h1 h2⟩

theorem foldl_set {vs : List Value} : ∀ (k : Nat) (A B : List Value), B.length = vs.length → A.length = k → (vs.zipIdx k).foldl (fun (cs : Array Value) (p : Value × Nat) => cs.setIfInBounds (0 + p.2) p.1) (A ++ B).toArray = (A ++ vs).toArray := by
  induction vs with
  | nil => intro k A B h _; have : B = [] := List.eq_nil_of_length_eq_zero (by simpa using h); subst this; rfl
  | cons v vs ih =>
    intro k A B h hA
    cases B with
    | nil => simp at h
    | cons b B =>
      simp only [List.zipIdx_cons, List.foldl_cons]
      have e1 : (A ++ b :: B).toArray.setIfInBounds (0 + k) v = ((A ++ [v]) ++ B).toArray := by
        apply Array.ext'
        subst hA
        simp
      rw [e1, ih (k + 1) (A ++ [v]) B (by simpa using h) (by simp [hA])]
      simp

theorem fill_one {X vs : Array Value} {n : Nat} (hX : X.size = n) (hv : vs.size = n) : Instr.fill (fun i => some (i * n, n)) X [(0, .agg vs)] = some vs := by
  have h1 := foldl_set (vs := vs.toList) 0 [] X.toList (by simp; omega) rfl
  simp only [List.nil_append, Array.toArray_toList] at h1
  have h2 : vs.zipIdx.foldl (fun (cs : Array Value) (p : Value × Nat) => cs.setIfInBounds (0 + p.2) p.1) X = vs := by
    rw [← Array.foldl_toList, Array.toList_zipIdx]; exact h1
  have h3 : ¬ (vs.size ≠ n) := by omega
  have h4 : ¬ (0 + vs.size > X.size) := by omega
  unfold Instr.fill
  simp only [Value.cells, Nat.zero_mul, Instr.fill, h3, h4, decide_false, Bool.or_self, Bool.false_eq_true, if_false]
  exact congrArg some h2

theorem run_buildSlice_agg {P : Program} {w : World} {t e : TypeId} {vs : Array Value} {inf : TypeInfo} {z : Value} (ht : P.underlying t = some (.slice e)) (hi : P.info? e = some inf) (hz : inf.zero = some z) (hvs : vs.size = inf.size) (h0 : 0 < inf.size) (h1 : inf.size ≤ 16777216) :
    (Instr.buildSlice t 1 #[(0, .agg vs)]).run P w = .ok (.slice (some ⟨w.heap.size, 0, none⟩) 1 1) (w.alloc (.cells vs e (0, 0))) := by
  have hn : ¬ inf.size > 2 ^ 24 := by omega
  have hn0 : ¬ inf.size = 0 := by omega
  have hf := fill_one (X := (Array.range inf.size).map (z.cells[· % z.cells.size]!)) (vs := vs) (n := inf.size) (by simp) hvs
  simp [Instr.buildSlice, run_underlying' ht, run_sizeOf' hi, hn, hn0, zeroValue, typeInfo, program, Sem.run, hi, hz, hf, newRow, newObj]

/-- A slice literal of one array or struct. -/
theorem Eff.buildAgg {t e : TypeId} {x : Operand} {vs : Array Value} (ho : op.op = .buildSlice t 1 #[(0, x)]) (hx : opd Γ [] x = some (.agg vs)) (ht : C.P.underlying t = some (.slice e)) {n : Nat} (hsz : (C.P.info? e).map (·.size) = some n) {z : Value} (hz0 : (C.P.info? e).bind (·.zero) = some z)
    (hvs : vs.size = n) (h0 : 0 < n) (h1 : n ≤ 16777216) :
    Eff C R O Γ op Nat (fun b => .slice (some ⟨b, 0, none⟩) 1 1) (fun b => (b, .cells vs e (0, 0)) :: O) (fun b => C.w0.heap.size ≤ b ∧ b ∉ O.map (·.1)) := by
  refine Eff.of_run fun a w hs hp => ⟨w.heap.size, w.alloc (.cells vs e (0, 0)), ⟨hp.ext.size, hp.fresh (Nat.le_refl _)⟩, ?_, hp.alloc _⟩
  obtain ⟨inf, hi, hse⟩ := Option.map_eq_some_iff.1 hsz
  obtain ⟨inf', hi', hz⟩ := Option.bind_eq_some_iff.1 hz0
  rw [hi] at hi'
  simp only [Option.some.injEq] at hi'
  subst hi'
  subst hse
  have hr := run_buildSlice_agg (P := C.P) (w := w) ht hi hz hvs h0 h1
  simp [execOp, ho, opd_ok hs (holds_nil _) hx, hr]

theorem HP.perm {w0 w : World} {M : List Nat} {O' : List (Nat × Obj)} (h : HP w0 M R O w) (hp : O.Perm O') : HP w0 M R O' w :=
  ⟨h.ext, h.ro, h.rod, fun e he => h.own e (hp.mem_iff.2 he), (hp.map _).nodup_iff.1 h.dist, fun e he => h.mine e (hp.mem_iff.2 he)⟩

theorem Eff.perm {O2 : List (Nat × Obj)} {ι : Type} {V : ι → Value} {O' O2' : ι → List (Nat × Obj)} {F : ι → Prop} (h : Eff C R O2 Γ op ι V O2' F) (h1 : O.Perm O2) (h2 : ∀ x, (O2' x).Perm (O' x)) : Eff C R O Γ op ι V O' F :=
  fun a w hs hp Kt Q hK => h a w hs (hp.perm h1) Kt Q (fun x w' hF hp' => hK x w' hF (hp'.perm (h2 x)))

/-- append onto a slice of one's own that stands behind F. -/
theorem Eff.appendF {t e : TypeId} {x1 x2 : Operand} (ho : op.op = .call ⟨.builtin .append, #[x1, x2], #[t, t]⟩) (sz bytes : Nat) (ht : C.P.underlying t = some (.slice e)) (hsz : (C.P.info? e).map (fun i => (i.size, i.bytes)) = some (sz, bytes))
    {z : Value} (hz0 : (C.P.info? e).bind (·.zero) = some z) (hzs : z.cells.size = sz) (own : Own) {n : Nat} {xs : List Value} (hok : OwnOk own sz n xs) (h1 : opd Γ [] x1 = some (.slice own.a n own.c))
    {b2 off2 m c2 : Nat} (h2 : opd Γ [] x2 = some (.slice (some ⟨b2, off2, none⟩) m c2)) (news : List Value) (hl : news.length = m * sz) (hone : ∀ v ∈ news, one v = true) (Fl T : List (Nat × Obj)) (hO : O = Fl ++ (own.o e xs ++ T))
    (hsrc : ∀ w, HP C.w0 C.M R O w → ∀ j v, news[j]? = some v → w.cell? ⟨b2, off2 + j, none⟩ = some v) (hroom : (n + m) * bytes ≤ 140737488355328) (h63 : n + m ≤ 9223372036854775807) :
    Eff C R O Γ op Own (fun o => .slice o.a (n + m) o.c) (fun o => Fl ++ (o.o e (xs ++ news) ++ T)) (fun o => OwnOk o sz (n + m) (xs ++ news)) := by
  have hperm : O.Perm (own.o e xs ++ (Fl ++ T)) := by rw [hO]; exact List.perm_append_comm_assoc _ _ _
  exact (Eff.append ho sz bytes ht hsz hz0 hzs own hok h1 h2 news hl hone (fun w hp => hsrc w (hp.perm hperm.symm)) (Fl ++ T) rfl hroom h63).perm hperm (fun x => List.perm_append_comm_assoc _ _ _)

/-- A new slice, behind F. -/
theorem Eff.callOF {f : FuncId} {fn : Func} {c : Code} {xs : List Operand} {tys : Array TypeId} {vs : List Value} (e : TypeId) (sz n : Nat) (cells : List Value) (Fl T : List (Nat × Obj)) (hO : O = Fl ++ T) (ho : op.op = .call ⟨.value (.func f), xs.toArray, tys⟩) (hf : C.P.funcs[f]? = some fn)
    (hnm : (fn.name == "runtime.NumGoroutine") = false) (hb : fn.body = some c) (hx : opds Γ xs = some vs)
    (h : ∀ w, HP C.w0 C.M R O w → Calls C.P f vs.toArray w fun en w' => ∃ o : Own, OwnOk o sz n cells ∧ en = .returned (.slice o.a n o.c) ∧ Has w' (o.o e cells) ∧ (∀ x ∈ o.o e cells, w.heap.size ≤ x.1) ∧ Ext [] w w') :
    Eff C R O Γ op Own (fun o => .slice o.a n o.c) (fun o => Fl ++ (o.o e cells ++ T)) (fun o => OwnOk o sz n cells) :=
  (Eff.callO e sz n cells ho hf hnm hb hx h).perm (List.Perm.refl _) (fun x => by rw [hO]; exact List.perm_append_comm_assoc _ _ _)

/-- A slice that came in: what its first k cells hold. -/
def InS (Rl : List (Nat × Obj)) (la : Option Addr) (k : Nat) (f : Nat → Value) : Prop :=
  0 < k → ∃ b off cs t fr, la = some ⟨b, off, none⟩ ∧ (b, Obj.cells cs t fr) ∈ Rl ∧ ∀ j, j < k → cs[off + j]? = some (f j)

theorem InS.mono {Rl Rl' : List (Nat × Obj)} {la : Option Addr} {k : Nat} {f : Nat → Value} (h : InS Rl la k f) (hR : ∀ e ∈ Rl, e ∈ Rl') : InS Rl' la k f := by
  intro hk
  obtain ⟨b, off, cs, t, fr, h1, h2, h3⟩ := h hk
  exact ⟨b, off, cs, t, fr, h1, hR _ h2, h3⟩

theorem has_app {w : World} {A B : List (Nat × Obj)} (ha : Has w A) (hb : Has w B) : Has w (A ++ B) := by
  intro e he
  rcases List.mem_append.1 he with h | h
  · exact ha e h
  · exact hb e h

/-- Cells that are an array of bytes, loaded whole. -/
theorem load_bytes {P : Program} {w : World} {b off n : Nat} {ty : TypeId} {d : TypeDesc} {l : List UInt8} (hu : P.underlying ty = some d) (hd : (match d with | .struct _ | .array _ _ => true | _ => false) = true) (hi : (P.info? ty).map (·.size) = some n) (hl : l.length = n)
    (h : ∀ j, j < n → w.cell? ⟨b, off + j, none⟩ = some (.int .u8 ((l.getD j 0).toNat : Int))) : (loadVar ty ⟨b, off, none⟩).run P w = .ok (.agg (bv l)) w := by
  obtain ⟨inf, hinf, hs⟩ := Option.map_eq_some_iff.1 hi
  have h1 := run_loadCells (P := P) (w := w) (b := b) (off := off) (n := n) (fun j => .int .u8 ((l.getD j 0).toNat : Int)) h
  have h2 : ((List.range n).map fun j => Value.int .u8 ((l.getD j 0).toNat : Int)).toArray = bv l := by
    apply Array.ext'
    simp only [bv]
    apply List.ext_getElem?
    intro i
    by_cases hi : i < n
    · have hi' : i < l.length := by omega
      simp [hi, List.getElem?_eq_getElem hi']
    · have hi' : l.length ≤ i := by omega
      simp [hi, List.getElem?_eq_none hi']
  rw [h2] at h1
  have h3 : (isAgg ty).run P w = .ok true w := by
    simp only [isAgg, Sem.run_bind, run_underlying' hu, Result.andThen_ok]
    cases d <;> simp_all
  have h4 : (sizeOf ty).run P w = .ok n w := by rw [run_sizeOf' hinf, hs]
  simp [loadVar, h3, h4, h1]

end
end K
end Go.Proofs.YtoopekjbikcebaaDoor
