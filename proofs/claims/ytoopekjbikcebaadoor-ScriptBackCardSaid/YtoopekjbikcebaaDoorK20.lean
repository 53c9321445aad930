/- Rows of whatever elements: copied, cleared, appended in place, grown by zeros; whether two rows overlap. -/
import Derived.Test.YtoopekjbikcebaaDoorK19
import Derived.Lib.Overlaps
namespace Go.Proofs.YtoopekjbikcebaaDoor
namespace K

theorem spl_app (cs : Array Value) : ∀ (xs ys : List Value) (off : Nat), spl cs off (xs ++ ys) = spl (spl cs off xs) (off + xs.length) ys := by
  intro xs
  induction xs generalizing cs with
  | nil => intro ys off; rfl
  | cons x xs ih =>
    intro ys off
    rw [List.cons_append, spl, ih, spl, List.length_cons, show off + 1 + xs.length = off + (xs.length + 1) by omega]

theorem spl_at {L A B T vs : List Value} {off : Nat} (hL : L = A ++ B ++ T) (hA : A.length = off) (hB : vs.length = B.length) : spl L.toArray off vs = (A ++ vs ++ T).toArray := by
  subst hL; subst hA
  exact spl_list A B T vs hB

section
variable {C : Cx} {R O : List (Nat × Obj)} {Γ : Env} {op : Oper}

/-- copy between rows: the cells that come are known. -/
theorem Eff.copyC {t1 t2 e : TypeId} {x1 x2 : Operand} (ho : op.op = .call ⟨.builtin .copy, #[x1, x2], #[t1, t2]⟩) (ht : C.P.underlying t1 = some (.slice e)) (sz : Nat) (hsz : (C.P.info? e).map (·.size) = some sz)
    {b off dl c : Nat} (h1 : opd Γ [] x1 = some (.slice (some ⟨b, off, none⟩) dl c)) {b2 off2 sl c2 : Nat} (h2 : opd Γ [] x2 = some (.slice (some ⟨b2, off2, none⟩) sl c2)) (i : Nat) {cs : Array Value} {te : TypeId} (hO : O[i]? = some (b, .cells cs te (0, 0)))
    (n : Nat) (hn : n = min sl dl) (cells : List Value) (hl : cells.length = n * sz) (hone : ∀ v ∈ cells, one v = true) (hsrc : ∀ w, HP C.w0 C.M R O w → ∀ j v, cells[j]? = some v → w.cell? ⟨b2, off2 + j, none⟩ = some v) (hoff : off + cells.length ≤ cs.size) :
    Eff C R O Γ op Unit (fun _ => .int .i64 (n : Int)) (fun _ => O.set i (b, .cells (spl cs off cells) te (0, 0))) (fun _ => True) := by
  refine Eff.of_run fun a w hs hp => ?_
  obtain ⟨inf, hi, hs1⟩ := Option.map_eq_some_iff.1 hsz
  have hb := hp.own _ (List.mem_of_getElem? hO)
  obtain ⟨w', hr, hw, h3, h4, h5⟩ := run_storeCells (P := C.P) (off := off) cells 0 cs w hb (by omega) hone
  refine ⟨(), w', trivial, ?_, hp.set i _ hO hw h3 h4 h5⟩
  have hld := run_loadCells_list (P := C.P) w ⟨b2, off2, none⟩ cells (fun j v hj => by rw [add_none]; exact hsrc w hp j v hj)
  have hmin : Nat.min sl dl = n := hn.symm
  have hr' : (Builtin.copy_ #[t1, t2] op.type #[.slice (some ⟨b, off, none⟩) dl c, .slice (some ⟨b2, off2, none⟩) sl c2]).run C.P w = .ok (.int .i64 (n : Int)) w' := by
    have hld' : (loadCells ⟨b2, off2, none⟩ (n * inf.size)).run C.P w = .ok cells.toArray w := by rw [hs1, ← hl]; exact hld
    simp only at hr
    simp [Builtin.copy_, run_underlying' ht, run_sizeOf' hi, Builtin.lenOf, Builtin.firstCells, hmin, hld', hr]
    rfl
  simp [execOp, ho, resolve, invoke, builtin, opd_ok hs (holds_nil _) h1, opd_ok hs (holds_nil _) h2, hr']

/-- clear of a part of an own row. -/
theorem Eff.clearC {t e : TypeId} {x : Operand} (ho : op.op = .call ⟨.builtin .clear, #[x], #[t]⟩) (ht : C.P.underlying t = some (.slice e)) {z : Value} (hz0 : (C.P.info? e).bind (·.zero) = some z) {b off n c : Nat} (h1 : opd Γ [] x = some (.slice (some ⟨b, off, none⟩) n c)) (hn : 0 < n)
    (i : Nat) {cs : Array Value} {te : TypeId} (hO : O[i]? = some (b, .cells cs te (0, 0))) (hone : ∀ v ∈ (Builtin.zeroCells z.cells n).toList, one v = true) (hoff : off + n * z.cells.size ≤ cs.size) :
    Eff C R O Γ op Unit (fun _ => .tuple #[]) (fun _ => O.set i (b, .cells (spl cs off (Builtin.zeroCells z.cells n).toList) te (0, 0))) (fun _ => True) := by
  refine Eff.of_run fun a w hs hp => ?_
  obtain ⟨inf, hi, hz⟩ := Option.bind_eq_some_iff.1 hz0
  have hb := hp.own _ (List.mem_of_getElem? hO)
  obtain ⟨w', hr, hw, h3, h4, h5⟩ := run_storeCells (P := C.P) (off := off) (Builtin.zeroCells z.cells n).toList 0 cs w hb (by rw [Array.length_toList, zeroCells_size]; omega) hone
  refine ⟨(), w', trivial, ?_, hp.set i _ hO hw h3 h4 h5⟩
  have hzv : (zeroValue e).run C.P w = .ok z w := by simp [zeroValue, typeInfo, program, Sem.run, hi, hz]
  have hr' : (Builtin.clear_ #[t] op.type #[.slice (some ⟨b, off, none⟩) n c]).run C.P w = .ok (.tuple #[]) w' := by
    obtain ⟨m, rfl⟩ : ∃ m, n = m + 1 := ⟨n - 1, by omega⟩
    simp only at hr
    simp [Builtin.clear_, run_underlying' ht, hzv, hr]
  simp [execOp, ho, resolve, invoke, builtin, opd_ok hs (holds_nil _) h1, hr']

/-- append where there is room: the same block. -/
theorem Eff.appendRoom {t e : TypeId} {x1 x2 : Operand} (ho : op.op = .call ⟨.builtin .append, #[x1, x2], #[t, t]⟩) (sz : Nat) (ht : C.P.underlying t = some (.slice e)) (hsz : (C.P.info? e).map (·.size) = some sz)
    {b n cap : Nat} (h1 : opd Γ [] x1 = some (.slice (some ⟨b, 0, none⟩) n cap)) {b2 off2 m c2 : Nat} (h2 : opd Γ [] x2 = some (.slice (some ⟨b2, off2, none⟩) m c2)) (i : Nat) (A B T : List Value) (hO : O[i]? = some (b, .cells (A ++ B ++ T).toArray e (0, 0)))
    (news : List Value) (hA : A.length = n * sz) (hB : news.length = B.length) (hl : news.length = m * sz) (hone : ∀ v ∈ news, one v = true) (hsrc : ∀ w, HP C.w0 C.M R O w → ∀ j v, news[j]? = some v → w.cell? ⟨b2, off2 + j, none⟩ = some v) (hroom : n + m ≤ cap) :
    Eff C R O Γ op Unit (fun _ => .slice (some ⟨b, 0, none⟩) (n + m) cap) (fun _ => O.set i (b, .cells (A ++ news ++ T).toArray e (0, 0))) (fun _ => True) := by
  refine Eff.of_run fun a w hs hp => ?_
  obtain ⟨inf, hi, hs1⟩ := Option.map_eq_some_iff.1 hsz
  have hb := hp.own _ (List.mem_of_getElem? hO)
  subst hs1
  have hrun := Go.run_append_room (P := C.P) w t op.type e inf ht hi b n cap (A ++ B ++ T).toArray hb ⟨b2, off2, none⟩ m c2 news hl (fun j u hj => by rw [add_none]; exact hsrc w hp j u hj) (fun u hu => one_cell (hone u hu)) hroom
    (by simp only [List.size_toArray, List.length_append]; omega)
  have e3 : ((A ++ B ++ T).toArray.toList.take (n * inf.size) ++ news ++ (A ++ B ++ T).toArray.toList.drop (n * inf.size + news.length)) = A ++ news ++ T := by
    rw [← hA, hB]
    show List.take A.length (A ++ B ++ T) ++ news ++ List.drop (A.length + B.length) (A ++ B ++ T) = _
    rw [show A.length + B.length = (A ++ B).length by rw [List.length_append], List.drop_left, List.append_assoc A B T, List.take_left]
  rw [e3] at hrun
  refine ⟨(), _, trivial, ?_, hp.set i _ hO (setRow_get hb) rfl rfl rfl⟩
  simp [execOp, ho, resolve, invoke, builtin, opd_ok hs (holds_nil _) h1, opd_ok hs (holds_nil _) h2, hrun]

/-- append of zeros where there is no room: a new block. -/
theorem Eff.appendZ {t tn e : TypeId} {kn : IntKind} {x1 x2 : Operand} (ho : op.op = .call ⟨.builtin .append, #[x1, x2], #[t, tn]⟩) (sz bytes : Nat) (ht : C.P.underlying t = some (.slice e)) (htn : C.P.underlying tn = some (.int kn)) (hsz : (C.P.info? e).map (fun i => (i.size, i.bytes)) = some (sz, bytes))
    {z : Value} (hz0 : (C.P.info? e).bind (·.zero) = some z) (hzs : z.cells.size = sz) (hsz0 : 0 < sz) {b n cap : Nat} (h1 : opd Γ [] x1 = some (.slice (some ⟨b, 0, none⟩) n cap)) {k : Int} {m : Nat} (hk : k = (m : Int)) (hm : 0 < m) (h2 : opd Γ [] x2 = some (.int .i64 k))
    (xs : List Value) (hx : xs.length = n * sz) (hsrc : ∀ w, HP C.w0 C.M R O w → ∀ j v, xs[j]? = some v → w.cell? ⟨b, 0 + j, none⟩ = some v) (hgrow : cap < n + m) (hroom : (n + m) * bytes ≤ 140737488355328) (h63 : n + m ≤ 9223372036854775807) :
    Eff C R O Γ op Own (fun o => .slice o.a (n + m) o.c) (fun o => o.o e (xs ++ (Builtin.zeroCells z.cells m).toList) ++ O) (fun o => OwnOk o sz (n + m) (xs ++ (Builtin.zeroCells z.cells m).toList)) := by
  refine Eff.of_run fun a w hs hp => ?_
  obtain ⟨inf, hi, hse⟩ := Option.map_eq_some_iff.1 hsz
  obtain ⟨inf', hi', hz⟩ := Option.bind_eq_some_iff.1 hz0
  rw [hi] at hi'
  simp only [Option.some.injEq] at hi'
  subst hi'
  simp only [Prod.mk.injEq] at hse
  obtain ⟨rfl, rfl⟩ := hse
  subst hk
  have hld := run_loadCells_list (P := C.P) w.drew ⟨b, 0, none⟩ xs (fun j v hj => by rw [add_none]; exact hsrc w hp j v hj)
  have hc := grownCap_ge w (n + m) cap e
  have hfit := growslice_fits (show cap < n + m from hgrow) hroom
  have hzv : ∀ w, (zeroValue e).run C.P w = .ok z w := fun w => by simp [zeroValue, typeInfo, program, Sem.run, hi, hz]
  have hlen : (xs ++ (Builtin.zeroCells z.cells m).toList).length = (n + m) * inf.size := by rw [List.length_append, hx, Array.length_toList, zeroCells_size, hzs, Nat.add_mul]
  let rest := (Builtin.zeroCells z.cells (grownCap w (n + m) cap e - (n + m))).toList
  have hrest : rest.length = (grownCap w (n + m) cap e - (n + m)) * inf.size := by simp only [rest]; rw [Array.length_toList, zeroCells_size, hzs]
  have hbpos : m * inf.bytes ≤ 140737488355328 := Nat.le_trans (Nat.mul_le_mul_right _ (Nat.le_add_left m n)) hroom
  have hrun : (Builtin.append_ #[t, tn] op.type #[.slice (some ⟨b, 0, none⟩) n cap, .int .i64 (m : Int)]).run C.P w =
      .ok (.slice (some ⟨w.heap.size, 0, none⟩) (n + m) (grownCap w (n + m) cap e)) (w.drew.alloc (.cells (xs ++ (Builtin.zeroCells z.cells m).toList ++ rest).toArray e (0, 0))) := by
    have hw : IntKind.i64.wrap (m : Int) = (m : Int) := wrap_in ⟨(show (-9223372036854775808 : Int) ≤ (m : Int) by omega), (show (m : Int) ≤ 9223372036854775807 by omega)⟩
    have h0 : ¬ ((m : Int) < 0) := by omega
    have h48 : ¬ ((m : Int) * (inf.bytes : Int) > 281474976710656) := by
      have h9 := Int.ofNat_le.2 hbpos
      rw [Int.natCast_mul] at h9
      have h8 : ((140737488355328 : Nat) : Int) = 140737488355328 := rfl
      rw [h8] at h9
      omega
    have hn : ¬ (n + m ≤ cap) := by omega
    have h63' : ¬ (9223372036854775807 < ((n : Int) + (m : Int))) := by omega
    have h48' : ¬ (281474976710656 < Builtin.nextslicecap (n + m) cap * inf.bytes) := by omega
    have hms : ¬ (m * inf.size = 0) := by
      intro h; rcases Nat.mul_eq_zero.1 h with h | h <;> omega
    have hx' : (loadCells ⟨b, 0, none⟩ (n * inf.size)).run C.P w.drew = .ok xs.toArray w.drew := by rw [← hx]; exact hld
    have hai : (asIntOf (.int .i64 (m : Int))).run C.P w = .ok (.i64, (m : Int)) w := rfl
    simp [Builtin.append_, run_underlying' ht, run_underlying' htn, run_sizeOf' hi, asInt, hai, typeInfo, hi, hw, h0, h48, Builtin.lenOf, hn, h63', h48', Question.forced, Builtin.firstCells, hx', hzv, newRow, grownCap]
    rw [if_neg hms]
    congr 3
    apply Array.ext'
    simp [rest, grownCap]
  have hp2 := (hp.calm (ext_drew w)).alloc (.cells (xs ++ (Builtin.zeroCells z.cells m).toList ++ rest).toArray e (0, 0))
  refine ⟨some (w.heap.size, grownCap w (n + m) cap e, rest), _, ⟨hlen, fun h => (by cases h), fun p hp' => ?_⟩, ?_, hp2⟩
  · simp only [Option.some.injEq] at hp'
    subst hp'
    refine ⟨?_, hc⟩
    simp only
    rw [hlen, hrest, ← Nat.add_mul]
    congr 1
    omega
  · simp only [Own.a, Own.c]
    simp [execOp, ho, resolve, invoke, builtin, opd_ok hs (holds_nil _) h1, opd_ok hs (holds_nil _) h2, hrun]

theorem run_noOverlap {P : Program} {w : World} {tS tR e : TypeId} (ht : P.underlying tS = some (.slice e)) {sz : Nat} (hsz : (P.info? e).map (·.size) = some sz) {a b oa ob la ca lb cb : Nat} (hne : a ≠ b) {A B : Array Value} {tA tB : TypeId}
    (ha : w.heap[a]? = some (.cells A tA (0, 0))) (hb : w.heap[b]? = some (.cells B tB (0, 0))) (hB : 0 < B.size) :
    (Extern.SlicesOverlaps.overlaps #[tS, tS] #[tR] #[.slice (some ⟨a, oa, none⟩) la ca, .slice (some ⟨b, ob, none⟩) lb cb]).run P w = .ok (.bool false) w := by
  obtain ⟨inf, hi, hs1⟩ := Option.map_eq_some_iff.1 hsz
  refine Lib.run_overlaps_apart w tS tR e ht sz (fun w => by rw [run_sizeOf' hi, hs1]) ⟨a, oa, none⟩ ⟨b, ob, none⟩ la ca lb cb hne tA tB A.size B.size ?_ ?_ (by omega) ?_ ?_
  · simp [World.shape?, ha]
  · simp [World.shape?, hb]
  · simp [World.frozen?, ha]
  · simp [World.frozen?, ha]

/-- A call of a function value that holds captured values, by the function's contract. -/
theorem Eff.callVC {x : Operand} {f : FuncId} {fn : Func} {c : Code} {xs : List Operand} {tys : Array TypeId} (caps : List Value) (ho : op.op = .call ⟨.value x, xs.toArray, tys⟩) (hxv : opd Γ [] x = some (.func (.func f) #[] caps.toArray)) (hf : C.P.funcs[f]? = some fn) (hnm : (fn.name == "runtime.NumGoroutine") = false) (hb : fn.body = some c)
    {vs : List Value} (hx : opds Γ xs = some vs) {ι : Type} {V : ι → Value} {O' : ι → List (Nat × Obj)} {F : ι → Prop}
    (h : ∀ w, HP C.w0 C.M R O w → Calls C.P f (vs ++ caps).toArray w fun e w' => ∃ x, F x ∧ e = .returned (V x) ∧ HP C.w0 C.M R (O' x) w') : Eff C R O Γ op ι V O' F := by
  intro a w hs hp Kt Q hK
  have hargs := opds_ok hs hx
  have hv := opd_ok hs (holds_nil _) hxv
  have hrun : (execOp a.eval op).run C.P w = .ok (.enter f (vs ++ caps).toArray) w := by
    simp [execOp, ho, resolve, Deferred.ofValue, hv, invoke, hargs, run_callFunc hf hnm hb]
  unfold Oper.wp
  rw [hrun]
  refine (h w hp).mono ?_
  rintro e w' ⟨x, hx, rfl, hp'⟩
  exact hK x w' hx hp'

theorem Eff.callAVC {x : Operand} {f : FuncId} {fn : Func} {c : Code} {xs : List Operand} {tys : Array TypeId} {vs : List Value} (v : Value) (caps : List Value) (ho : op.op = .call ⟨.value x, xs.toArray, tys⟩) (hxv : opd Γ [] x = some (.func (.func f) #[] caps.toArray)) (hf : C.P.funcs[f]? = some fn)
    (hnm : (fn.name == "runtime.NumGoroutine") = false) (hb : fn.body = some c) (hx : opds Γ xs = some vs)
    (h : ∀ w, HP C.w0 C.M R O w → Calls C.P f (vs ++ caps).toArray w fun e w' => e = .returned v ∧ Ext [] w w') : Eff C R O Γ op Unit (fun _ => v) (fun _ => O) (fun _ => True) :=
  Eff.callVC caps ho hxv hf hnm hb hx fun w hp => (h w hp).mono fun _ _ hh => ⟨(), trivial, hh.1, hp.calm hh.2⟩

end
/-- A struct or an array of known cells, loaded whole. -/
theorem load_list {P : Program} {w : World} {b off n : Nat} {ty : TypeId} {d : TypeDesc} {vs : List Value} (hu : P.underlying ty = some d) (hd : (match d with | .struct _ | .array _ _ => true | _ => false) = true) (hi : (P.info? ty).map (·.size) = some n) (hl : vs.length = n)
    (h : ∀ j v, vs[j]? = some v → w.cell? ⟨b, off + j, none⟩ = some v) : (loadVar ty ⟨b, off, none⟩).run P w = .ok (.agg vs.toArray) w := by
  obtain ⟨inf, hinf, hs⟩ := Option.map_eq_some_iff.1 hi
  have h1 := run_loadCells_list (P := P) w ⟨b, off, none⟩ vs (fun j v hj => by rw [add_none]; exact h j v hj)
  rw [hl] at h1
  have h3 : (isAgg ty).run P w = .ok true w := by
    simp only [isAgg, Sem.run_bind, run_underlying' hu, Result.andThen_ok]
    cases d <;> simp_all
  have h4 : (sizeOf ty).run P w = .ok n w := by rw [run_sizeOf' hinf, hs]
  simp [loadVar, h3, h4, h1]

/-- A slice with a bound of its room: it gives some value. -/
theorem Eff.slice3 {C : Cx} {R O : List (Nat × Obj)} {Γ : Env} {op : Oper} {t e : TypeId} {x l h m : Operand} (ho : op.op = .slice t x (some l) (some h) (some m)) (ht : C.P.underlying t = some (.slice e)) {sz : Nat} (hsz : (C.P.info? e).map (·.size) = some sz)
    {a : Option Addr} {n c : Nat} {i j k : Int} (hx : opd Γ [] x = some (.slice a n c)) (hl : opd Γ [] l = some (.int .i64 i)) (hh : opd Γ [] h = some (.int .i64 j)) (hm : opd Γ [] m = some (.int .i64 k)) (h0 : 0 ≤ i ∧ i ≤ j ∧ j ≤ k ∧ k ≤ (c : Int)) :
    Eff C R O Γ op Value (fun v => v) (fun _ => O) (fun _ => True) := by
  obtain ⟨i', rfl⟩ := Int.eq_ofNat_of_zero_le h0.1
  obtain ⟨j', rfl⟩ := Int.eq_ofNat_of_zero_le (show 0 ≤ j by omega)
  obtain ⟨k', rfl⟩ := Int.eq_ofNat_of_zero_le (show 0 ≤ k by omega)
  obtain ⟨inf, hi, hs1⟩ := Option.map_eq_some_iff.1 hsz
  refine Eff.of_run fun ac w hs hp => ⟨.slice (if k' = i' then a else a.map (·.add (i' * inf.size))) (j' - i') (k' - i'), w, trivial, ?_, hp⟩
  have hb : ∀ (x y : Nat) (code : BoundsCode), x ≤ y → (Instr.sliceBound (.int .i64 (x : Int)) y code).run C.P w = .ok x w := by
    intro x y code hxy
    have hai : (asIntOf (.int .i64 (x : Int))).run C.P w = .ok (.i64, (x : Int)) w := rfl
    have h2 : (0 : Int) ≤ (x : Int) ∧ (x : Int) ≤ (y : Int) := ⟨by omega, by omega⟩
    simp [Instr.sliceBound, hai, hxy]
  have hbs : (Instr.sliceBounds true n c (some (.int .i64 (i' : Int))) (some (.int .i64 (j' : Int))) (some (.int .i64 (k' : Int)))).run C.P w = .ok (i', j', k') w := by
    simp only [Instr.sliceBounds, Sem.run_bind, hb k' c _ (by omega), Result.andThen_ok, hb j' k' _ (by omega), hb i' j' _ (by omega), Sem.run_pure]
  have hr : (Instr.slice t (.slice a n c) (some (.int .i64 (i' : Int))) (some (.int .i64 (j' : Int))) (some (.int .i64 (k' : Int)))).run C.P w = .ok (.slice (if k' = i' then a else a.map (·.add (i' * inf.size))) (j' - i') (k' - i')) w := by
    simp only [Instr.slice, Sem.run_bind, run_underlying' ht, Result.andThen_ok, hbs, run_sizeOf' hi, Sem.run_pure]
  have e1 := opd_ok hs (holds_nil _) hx
  have e2 := opd_ok hs (holds_nil _) hl
  have e3 := opd_ok hs (holds_nil _) hh
  have e4 := opd_ok hs (holds_nil _) hm
  simp only [execOp, ho]
  refine run_v ?_
  simp only [Option.map_some, e1, e2, e3, e4, Instr.sliceAt, Sem.run_bind, run_underlying' ht, Result.andThen_ok]
  exact hr

/-- A slice of none, from the first on: none. -/
theorem Eff.sliceNil {C : Cx} {R O : List (Nat × Obj)} {Γ : Env} {op : Oper} {t e : TypeId} {x l : Operand} (ho : op.op = .slice t x (some l) none none) (ht : C.P.underlying t = some (.slice e)) (hsz : ((C.P.info? e).map (·.size)).isSome = true)
    (hx : opd Γ [] x = some (.slice none 0 0)) (hl : opd Γ [] l = some (.int .i64 0)) : Eff C R O Γ op Unit (fun _ => .slice none 0 0) (fun _ => O) (fun _ => True) := by
  obtain ⟨sz, hsz⟩ := Option.isSome_iff_exists.1 hsz
  obtain ⟨inf, hi, hs1⟩ := Option.map_eq_some_iff.1 hsz
  refine Eff.of_run fun ac w hs hp => ⟨(), w, trivial, ?_, hp⟩
  have hb : ∀ (code : BoundsCode), (Instr.sliceBound (.int .i64 0) 0 code).run C.P w = .ok 0 w := by
    intro code
    have hai : (asIntOf (.int .i64 0)).run C.P w = .ok (.i64, 0) w := rfl
    simp [Instr.sliceBound, hai]
  have hbs : (Instr.sliceBounds true 0 0 (some (.int .i64 0)) none none).run C.P w = .ok (0, 0, 0) w := by
    simp only [Instr.sliceBounds, Sem.run_bind, hb, Result.andThen_ok, Sem.run_pure]
  have hr : (Instr.slice t (.slice none 0 0) (some (.int .i64 0)) none none).run C.P w = .ok (.slice none 0 0) w := by
    simp only [Instr.slice, Sem.run_bind, run_underlying' ht, Result.andThen_ok, hbs, run_sizeOf' hi, Sem.run_pure]
    rfl
  have e1 := opd_ok hs (holds_nil _) hx
  have e2 := opd_ok hs (holds_nil _) hl
  simp only [execOp, ho]
  refine run_v ?_
  simp only [Option.map_some, Option.map_none, e1, e2, Instr.sliceAt, Sem.run_bind, run_underlying' ht, Result.andThen_ok]
  exact hr

/-- A call that gives two rows. -/
theorem Eff.callTwo {C : Cx} {R O : List (Nat × Obj)} {Γ : Env} {op : Oper} {f : FuncId} {fn : Func} {c : Code} {xs : List Operand} {tys : Array TypeId} {vs : List Value} {ι : Type} (V : ι → Value) (A1 A2 : ι → List (Nat × Obj)) (F : ι → Prop) (Fl T : List (Nat × Obj)) (hO : O = Fl ++ T)
    (ho : op.op = .call ⟨.value (.func f), xs.toArray, tys⟩) (hf : C.P.funcs[f]? = some fn) (hnm : (fn.name == "runtime.NumGoroutine") = false) (hb : fn.body = some c) (hx : opds Γ xs = some vs)
    (h : ∀ w, HP C.w0 C.M R O w → Calls C.P f vs.toArray w fun e w' => ∃ x, F x ∧ e = .returned (V x) ∧ ∃ R1, HP w [] R1 (A1 x ++ (A2 x ++ [])) w') :
    Eff C R O Γ op ι V (fun x => Fl ++ (A1 x ++ (A2 x ++ T))) F := by
  have h1 := Eff.callH (op := op) V [] (fun x => A1 x ++ (A2 x ++ [])) F Fl T hO ho hf hnm hb hx (fun w hp _ _ => h w hp)
  have e : (fun x => Fl ++ (A1 x ++ (A2 x ++ T))) = fun x => Fl ++ ((A1 x ++ (A2 x ++ [])) ++ T) := by
    funext x; rw [List.append_nil, List.append_assoc]
  rw [e]; exact h1

theorem own_zero (b sz : Nat) : OwnOk (some (b, 0, [])) sz 0 [] := ⟨by simp, (fun h => by cases h), (fun p h => by cases h; exact ⟨by simp, Nat.le_refl _⟩)⟩
theorem four_one {a b c d : Value} (h1 : one a = true) (h2 : one b = true) (h3 : one c = true) (h4 : one d = true) : ∀ v ∈ (#[a, b, c, d] : Array Value).toList, one v = true := by
  intro v hv
  simp only [List.mem_cons, List.not_mem_nil, or_false] at hv
  rcases hv with rfl | rfl | rfl | rfl <;> assumption

/-- append of zeros, behind F. -/
theorem Eff.appendZF {C : Cx} {R O : List (Nat × Obj)} {Γ : Env} {op : Oper} {t tn e : TypeId} {kn : IntKind} {x1 x2 : Operand} (ho : op.op = .call ⟨.builtin .append, #[x1, x2], #[t, tn]⟩) (sz bytes : Nat) (ht : C.P.underlying t = some (.slice e)) (htn : C.P.underlying tn = some (.int kn)) (hsz : (C.P.info? e).map (fun i => (i.size, i.bytes)) = some (sz, bytes))
    {z : Value} (hz0 : (C.P.info? e).bind (·.zero) = some z) (hzs : z.cells.size = sz) (hsz0 : 0 < sz) {b n cap : Nat} (h1 : opd Γ [] x1 = some (.slice (some ⟨b, 0, none⟩) n cap)) {k : Int} {m : Nat} (hk : k = (m : Int)) (hm : 0 < m) (h2 : opd Γ [] x2 = some (.int .i64 k))
    (xs : List Value) (hx : xs.length = n * sz) (Fl T : List (Nat × Obj)) (hO : O = Fl ++ T) (hsrc : ∀ w, HP C.w0 C.M R O w → ∀ j v, xs[j]? = some v → w.cell? ⟨b, 0 + j, none⟩ = some v) (hgrow : cap < n + m) (hroom : (n + m) * bytes ≤ 140737488355328) (h63 : n + m ≤ 9223372036854775807) :
    Eff C R O Γ op Own (fun o => .slice o.a (n + m) o.c) (fun o => Fl ++ (o.o e (xs ++ (Builtin.zeroCells z.cells m).toList) ++ T)) (fun o => OwnOk o sz (n + m) (xs ++ (Builtin.zeroCells z.cells m).toList)) :=
  (Eff.appendZ ho sz bytes ht htn hsz hz0 hzs hsz0 h1 hk hm h2 xs hx hsrc hgrow hroom h63).perm (List.Perm.refl _) (fun o => by rw [hO]; exact List.perm_append_comm_assoc _ _ _)

end K
end Go.Proofs.YtoopekjbikcebaaDoor
