/- Texts on which the proof of this claim stands: K12, K13, K17, K18, K19, K14, K15, K16, K23, K28, K29, Bld, Wire1, Wire2. -/
import Derived.Test.YtdjpokckamlccaaGreatDoorP1
import Derived.Lib.AppendStr
import Derived.Lib.UnsafeStr
import Derived.Lib.Builder
import Derived.RangeFuncNested
import Derived.ArgAppend
import Derived.Test.YtdjpokckamlccaaGreatDoorRows
namespace Go.Proofs.YtdjpokckamlccaaGreatDoor
namespace K
theorem run_extern {P : Program} {w w' : World} {f : Nat} {fn : Func} {args : Array Value} {e : Array Value → Sem Value} {v : Value} (hf : P.funcs[f]? = some fn) (hnm : (fn.name == "runtime.NumGoroutine") = false) (hb : fn.body.isNone = true)
    (h1 : (Extern.findNext fn).isNone = true) (h2 : Extern.find fn = some e) (hr : (e args).run P w = .ok v w') : (callFunc f args).run P w = .ok (.value v) w' := by
  have h1' : Extern.findNext fn = none := Option.isNone_iff_eq_none.1 h1
  unfold callFunc
  simp only [Sem.run_bind, program, Sem.run, Result.andThen_ok, hf, hnm, hb, Bool.false_eq_true, if_false, if_true, mark, h1', h2]
  rw [hr]
  rfl
/-- A call of a function without a body that gives a value and changes nothing. -/
theorem Eff.callE {C : Cx} {R O : List (Nat × Obj)} {Γ : Env} {o : Oper} {f : FuncId} {fn : Func} {xs : List Operand} {tys : Array TypeId} {vs : List Value} (v : Value) {e : Array Value → Sem Value} (ho : o.op = .call ⟨.value (.func f), xs.toArray, tys⟩) (hf : C.P.funcs[f]? = some fn)
    (hnm : (fn.name == "runtime.NumGoroutine") = false) (hb : fn.body.isNone = true) (h1 : (Extern.findNext fn).isNone = true) (h2 : Extern.find fn = some e) (hx : opds Γ xs = some vs)
    (h : ∀ w, HP C.w0 C.M R O w → (e vs.toArray).run C.P w = .ok v w) : Eff C R O Γ o Unit (fun _ => v) (fun _ => O) (fun _ => True) :=
  Eff.of_run fun a w hs hp => ⟨(), w, trivial, by
    have hargs := opds_ok hs hx
    have hc := run_extern hf hnm hb h1 h2 (h w hp)
    simp [execOp, ho, resolve, Deferred.ofValue, Act.eval, invoke, hargs, hc], hp⟩
end K
end Go.Proofs.YtdjpokckamlccaaGreatDoor
namespace Go.Proofs.YtdjpokckamlccaaGreatDoor
namespace K
section
variable {w0 w w' : World} {M : List Nat} {R O : List (Nat × Obj)}
theorem HP.ofL {A : List (Nat × Obj)} (hA : Has w A) (hd : (A.map (·.1)).Nodup) (hR : Has w R) (hn : ∀ e ∈ R, e.1 ∉ A.map (·.1)) : HP w (A.map (·.1)) R A w :=
  ⟨Ext.refl _ _, hR, fun e he => ⟨lt_of_get (hR e he), hn e he⟩, hA, hd, fun e he => .inr (List.mem_map.2 ⟨e, he, rfl⟩)⟩
theorem nodup_left {A T : List (Nat × Obj)} (h : ((A ++ T).map (·.1)).Nodup) : (A.map (·.1)).Nodup := by
  rw [List.map_append] at h; exact (List.nodup_append.1 h).1
/-- What a call makes of the blocks A. -/
theorem HP.swap {A A' T R' : List (Nat × Obj)} (h : HP w0 M R (A ++ T) w) (h' : HP w (A.map (·.1)) R' A' w') : HP w0 M R (A' ++ T) w' := by
  have hM0 : ∀ k ∈ A.map (·.1), k < w0.heap.size → k ∈ M := by
    intro k hk hlt
    obtain ⟨e, he, rfl⟩ := List.mem_map.1 hk
    rcases h.mine e (List.mem_append_left _ he) with h1 | h1
    · omega
    · exact h1
  have hnd := h.dist
  rw [List.map_append] at hnd
  have hdis : ∀ e ∈ T, e.1 ∉ A.map (·.1) := fun e he hm => (List.nodup_append.1 hnd).2.2 _ hm _ (List.mem_map.2 ⟨e, he, rfl⟩) rfl
  have hT : ∀ e ∈ T, w.heap[e.1]? = some e.2 := fun e he => h.own e (List.mem_append_right A he)
  refine ⟨h.ext.trans h'.ext hM0, fun e he => ?_, h.rod, fun e he => ?_, ?_, fun e he => ?_⟩
  · have hr := h.ro e he
    rw [h'.ext.block e.1 (lt_of_get hr) (fun hm => (h.rod e he).2 (hM0 _ hm (h.rod e he).1))]; exact hr
  · rcases List.mem_append.1 he with he | he
    · exact h'.own e he
    · rw [h'.ext.block e.1 (lt_of_get (hT e he)) (hdis e he)]; exact hT e he
  · rw [List.map_append]
    refine List.nodup_append.2 ⟨h'.dist, (List.nodup_append.1 hnd).2.1, ?_⟩
    intro a ha b hb hab
    subst hab
    obtain ⟨e, he, rfl⟩ := List.mem_map.1 ha
    obtain ⟨e2, he2, hx⟩ := List.mem_map.1 hb
    rcases h'.mine e he with h1 | h1
    · have := lt_of_get (hT e2 he2)
      have hx' : e2.1 = e.1 := hx
      omega
    · exact hdis e2 he2 ((show e2.1 = e.1 from hx) ▸ h1)
  · rcases List.mem_append.1 he with he | he
    · rcases h'.mine e he with h1 | h1
      · exact .inl (Nat.le_trans h.ext.size h1)
      · obtain ⟨e2, he2, hx⟩ := List.mem_map.1 h1
        rw [← show e2.1 = e.1 from hx]; exact h.mine e2 (List.mem_append_left _ he2)
    · exact h.mine e (List.mem_append_right _ he)
end
section
variable {C : Cx} {R O : List (Nat × Obj)} {Γ : Env} {op : Oper}
/-- A call that makes A' of the blocks A. -/
theorem Eff.callH {f : FuncId} {fn : Func} {c : Code} {xs : List Operand} {tys : Array TypeId} {vs : List Value} {ι : Type} (V : ι → Value) (A : List (Nat × Obj)) (A' : ι → List (Nat × Obj)) (F : ι → Prop) (Fl T : List (Nat × Obj)) (hO : O = Fl ++ (A ++ T))
    (ho : op.op = .call ⟨.value (.func f), xs.toArray, tys⟩) (hf : C.P.funcs[f]? = some fn) (hnm : (fn.name == "runtime.NumGoroutine") = false) (hb : fn.body = some c) (hx : opds Γ xs = some vs)
    (h : ∀ w, HP C.w0 C.M R O w → Has w A → (A.map (·.1)).Nodup → Calls C.P f vs.toArray w fun e w' => ∃ x, F x ∧ e = .returned (V x) ∧ ∃ R1, HP w (A.map (·.1)) R1 (A' x) w') :
    Eff C R O Γ op ι V (fun x => Fl ++ (A' x ++ T)) F :=
  Eff.call ho hf hnm hb hx fun w hp => by
    have hp1 : HP C.w0 C.M R (A ++ (Fl ++ T)) w := hp.perm (by rw [hO]; exact List.perm_append_comm_assoc _ _ _)
    refine (h w hp (fun e he => hp1.own e (List.mem_append_left _ he)) (nodup_left hp1.dist)).mono ?_
    rintro e w' ⟨x, hF, he, R1, hp'⟩
    exact ⟨x, hF, he, (hp1.swap hp').perm (List.perm_append_comm_assoc _ _ _)⟩
/-- What a builder holds: its first cell, and the slice of its bytes. -/
abbrev Bd := Value × Own
def bl (T E b : Nat) (l : List UInt8) (B : Bd) : List (Nat × Obj) := (b, .cells #[B.1, .slice B.2.a l.length B.2.c] T (0, 0)) :: B.2.o E (bv l).toList
structure BdOk (b : Nat) (l : List UInt8) (B : Bd) : Prop where
  ptr : B.1 = .pointer none ∨ B.1 = .pointer (some ⟨b, 0, none⟩)
  own : OwnOk B.2 1 l.length (bv l).toList
  pos : ∀ p, B.2 = some p → 0 < p.2.1
def bd0 : Bd := (.pointer none, none)
theorem bd0_ok (b : Nat) : BdOk b [] bd0 := ⟨.inl rfl, OwnOk.none 1, fun _ h => by cases h⟩
theorem bl_start {T E b : Nat} {l : List UInt8} {B : Bd} {w : World} {R : List (Nat × Obj)} (hh : Has w (bl T E b l B)) (hd : ((bl T E b l B).map (·.1)).Nodup) (hR : Has w R) (hn : ∀ e ∈ R, e.1 ∉ (bl T E b l B).map (·.1)) :
    HP w ((bl T E b l B).map (·.1)) R ([(b, .cells #[B.1, .slice (Own.a B.2) l.length (Own.c B.2)] T (0, 0))] ++ (Own.o E (bv l).toList B.2 ++ [])) w := by
  rw [List.append_nil]
  exact HP.ofL hh hd hR hn
theorem bl_end {T E b : Nat} {l : List UInt8} {B : Bd} {w0 w : World} {M : List Nat} {R : List (Nat × Obj)} (h : HP w0 M R ([(b, .cells #[B.1, .slice (Own.a B.2) l.length (Own.c B.2)] T (0, 0))] ++ (Own.o E (bv l).toList B.2 ++ [])) w) : HP w0 M R (bl T E b l B) w := by
  rw [List.append_nil] at h
  exact h
/-- A new builder. -/
theorem Eff.allocB {t : TypeId} (E : Nat) (Fl T : List (Nat × Obj)) (hO : O = Fl ++ T) (ho : op.op = .alloc t) (hz0 : (C.P.info? t).bind (·.zero) = some (.agg #[.pointer none, .slice none 0 0])) :
    Eff C R O Γ op Nat (fun b => .pointer (some ⟨b, 0, none⟩)) (fun b => Fl ++ (bl t E b [] bd0 ++ T)) (fun b => C.w0.heap.size ≤ b ∧ b ∉ O.map (·.1)) :=
  (Eff.alloc ho hz0).perm (List.Perm.refl _) (fun b => by rw [hO]; exact List.perm_middle.symm)
theorem bv_list (l : List UInt8) : (bv l).toList = l.map fun b => Value.int .u8 b.toNat := rfl
theorem bv_app (a b : List UInt8) : (bv a).toList ++ (bv b).toList = (bv (a ++ b)).toList := by simp [bv_list]
theorem bv_len (l : List UInt8) : (bv l).toList.length = l.length := by simp [bv_list]
theorem strCells_bv (s : ByteArray) : Lib.strCells s = (bv s.data.toList).toList := rfl
theorem ba_len (s : ByteArray) : s.data.toList.length = s.size := by simp
/-- A text appended to bytes of one's own. -/
theorem Eff.appendS {t u e : TypeId} {x1 x2 : Operand} (ho : op.op = .call ⟨.builtin .append, #[x1, x2], #[t, u]⟩) (ht : C.P.underlying t = some (.slice e)) (hu : C.P.underlying u = some .string) (hsz : (C.P.info? e).map (fun i => (i.size, i.bytes)) = some (1, 1))
    (hz0 : (C.P.info? e).bind (·.zero) = some (.int .u8 0)) (own : Own) {n : Nat} {xs : List Value} (hok : OwnOk own 1 n xs) (hpos : ∀ p, own = some p → 0 < p.2.1) (h1 : opd Γ [] x1 = some (.slice own.a n own.c)) {s : ByteArray} (h2 : opd Γ [] x2 = some (.string s))
    (Fl T : List (Nat × Obj)) (hO : O = Fl ++ (own.o e xs ++ T)) (hroom : n + s.size ≤ 140737488355328) :
    Eff C R O Γ op Own (fun o => .slice o.a (n + s.size) o.c) (fun o => Fl ++ (o.o e (xs ++ (bv s.data.toList).toList) ++ T)) (fun o => OwnOk o 1 (n + s.size) (xs ++ (bv s.data.toList).toList) ∧ ∀ p, o = some p → 0 < p.2.1) := by
  have hperm : O.Perm (own.o e xs ++ (Fl ++ T)) := by rw [hO]; exact List.perm_append_comm_assoc _ _ _
  refine Eff.perm (O2 := own.o e xs ++ (Fl ++ T)) (O2' := fun o => o.o e (xs ++ (bv s.data.toList).toList) ++ (Fl ++ T)) ?_ hperm (fun x => List.perm_append_comm_assoc _ _ _)
  refine Eff.of_run fun a w hs hp => ?_
  obtain ⟨inf, hi, hse⟩ := Option.map_eq_some_iff.1 hsz
  obtain ⟨inf', hi', hz⟩ := Option.bind_eq_some_iff.1 hz0
  rw [hi] at hi'
  simp only [Option.some.injEq] at hi'
  subst hi'
  simp only [Prod.mk.injEq] at hse
  obtain ⟨hs1, hb1⟩ := hse
  have hxl : xs.length = n := by simpa using hok.len
  have hnl : (bv s.data.toList).toList.length = s.size := by rw [bv_len]; exact ba_len s
  have hlen : (xs ++ (bv s.data.toList).toList).length = (n + s.size) * 1 := by rw [List.length_append, hnl, hxl]; omega
  have hex : ∀ {v : Value} {w' : World}, (Builtin.append_ #[t, u] op.type #[a.eval x1, a.eval x2]).run C.P w = .ok v w' → (execOp a.eval op).run C.P w = .ok (.value v) w' := by
    intro v w' h
    simp [execOp, ho, resolve, invoke, builtin, h]
  have e1 := opd_ok hs (holds_nil _) h1
  have e2 := opd_ok hs (holds_nil _) h2
  have fresh : ∀ (c : Nat), n + s.size ≤ c → 0 < c → HP C.w0 C.M R (Fl ++ T) w → HP C.w0 C.M R (Own.o e (xs ++ (bv s.data.toList).toList) (some (w.heap.size, c, (Builtin.zeroCells (Value.int .u8 0).cells (c - (n + s.size))).toList)) ++ (Fl ++ T)) (w.drew.alloc (.cells (xs.toArray ++ (bv s.data.toList).toList.toArray ++ Builtin.zeroCells (Value.int .u8 0).cells (c - (n + s.size))) e)) ∧
      (OwnOk (some (w.heap.size, c, (Builtin.zeroCells (Value.int .u8 0).cells (c - (n + s.size))).toList)) 1 (n + s.size) (xs ++ (bv s.data.toList).toList) ∧ ∀ p : Nat × Nat × List Value, some (w.heap.size, c, (Builtin.zeroCells (Value.int .u8 0).cells (c - (n + s.size))).toList) = some p → 0 < p.2.1) := by
    intro c hc hc0 hp1
    have hp2 := (hp1.calm (ext_drew w)).alloc (.cells (xs.toArray ++ (bv s.data.toList).toList.toArray ++ Builtin.zeroCells (Value.int .u8 0).cells (c - (n + s.size))) e (0, 0))
    refine ⟨?_, ⟨hlen, fun h => (by cases h), fun p hp' => ?_⟩, fun p hp' => ?_⟩
    · have e3 : (xs.toArray ++ (bv s.data.toList).toList.toArray ++ Builtin.zeroCells (Value.int .u8 0).cells (c - (n + s.size))) = (xs ++ (bv s.data.toList).toList ++ (Builtin.zeroCells (Value.int .u8 0).cells (c - (n + s.size))).toList).toArray := by
        apply Array.ext'
        simp
      rw [e3] at hp2 ⊢
      exact hp2
    · simp only [Option.some.injEq] at hp'
      subst hp'
      refine ⟨?_, hc⟩
      have hz1 : (Value.int .u8 0).cells.size = 1 := rfl
      simp only [Array.length_toList, zeroCells_size, hlen, hz1]
      omega
    · simp only [Option.some.injEq] at hp'
      subst hp'
      exact hc0
  cases own with
  | none =>
    have hn := hok.nil rfl
    subst hn
    have hx : xs = [] := List.eq_nil_of_length_eq_zero hxl
    subst hx
    by_cases hm : s.size = 0
    · have hnn : (bv s.data.toList).toList = [] := List.eq_nil_of_length_eq_zero (by rw [hnl]; exact hm)
      refine ⟨none, w, ⟨by rw [hm, hnn]; exact OwnOk.none 1, fun _ h => by cases h⟩, hex ?_, ?_⟩
      · rw [e1, e2]
        have hf := Lib.run_firstCells_string (P := C.P) w 1 s
        rw [hm] at hf
        simp [Builtin.append_, run_underlying' ht, run_underlying' hu, sizeOf, typeInfo, hi, hs1, Builtin.lenOf, hm, hf, Own.a, Own.c]
      · exact hp
    · obtain ⟨f1, f2⟩ := fresh (grownCap w s.size 0 e) (by have := grownCap_ge w s.size 0 e; omega) (by have := grownCap_ge w s.size 0 e; omega) hp
      refine ⟨some (w.heap.size, grownCap w s.size 0 e, _), _, f2, hex ?_, f1⟩
      rw [e1, e2]
      have hr := run_append_nil_string (P := C.P) w t u op.type e inf (.int .u8 0) ht hu hi hz s (by omega) (by omega) (by rw [hb1]; omega)
      have e3 : (s.data.map fun b => Value.int .u8 b.toNat) = (bv s.data.toList).toList.toArray := by
        apply Array.ext'
        simp [bv_list]
      rw [e3] at hr
      simp only [Own.a, Own.c, Nat.zero_add, Array.empty_append] at hr ⊢
      exact hr
  | some p =>
    obtain ⟨b, cap, junk⟩ := p
    obtain ⟨hj, hnc⟩ := hok.some _ rfl
    have hp0 := hpos _ rfl
    simp only at hj hnc hp0
    have hget : (Own.o e xs (some (b, cap, junk)) ++ (Fl ++ T))[0]? = some (b, .cells (xs ++ junk).toArray e (0, 0)) := rfl
    have hb := hp.own _ (List.mem_of_getElem? hget)
    have hp1 : HP C.w0 C.M R (Fl ++ T) w := hp.sub (List.sublist_append_right _ _)
    by_cases hr : n + s.size ≤ cap
    · have hfit : n + s.size ≤ (xs ++ junk).toArray.size := by
        simp only [List.size_toArray, List.length_append]; omega
      have hrun := Lib.run_append_room_string (P := C.P) w t u op.type e inf ht hu hi hs1 b n cap (xs ++ junk).toArray hb s hr hfit
      have e3 : ((xs ++ junk).toArray.toList.take n ++ Lib.strCells s ++ (xs ++ junk).toArray.toList.drop (n + s.size)) = xs ++ (bv s.data.toList).toList ++ junk.drop s.size := by
        rw [strCells_bv, ← hxl]
        simp [List.drop_append, List.drop_eq_nil_of_le (show xs.length ≤ xs.length + s.size by omega)]
      rw [e3] at hrun
      refine ⟨some (b, cap, junk.drop s.size), _, ⟨⟨hlen, fun h => (by cases h), fun p hp' => ?_⟩, fun p hp' => ?_⟩, hex (by rw [e1, e2]; exact hrun), ?_⟩
      · simp only [Option.some.injEq] at hp'
        subst hp'
        refine ⟨?_, hr⟩
        simp only [List.size_toArray, List.length_append] at hfit
        simp only [List.length_append, List.length_drop, hnl]
        omega
      · simp only [Option.some.injEq] at hp'
        subst hp'
        exact hp0
      · exact hp.set 0 (.cells (xs ++ (bv s.data.toList).toList ++ junk.drop s.size).toArray e (0, 0)) hget (setRow_get hb) rfl rfl rfl
    · obtain ⟨f1, f2⟩ := fresh (grownCap w (n + s.size) cap e) (grownCap_ge w (n + s.size) cap e) (by have := grownCap_ge w (n + s.size) cap e; omega) hp1
      have holds : ∀ j v, xs[j]? = some v → w.cell? (Addr.add ⟨b, 0, none⟩ j) = some v := fun j v hjv => by
        rw [add_none, Nat.zero_add, cell_cells hb]
        have hlt : j < xs.length := (List.getElem?_eq_some_iff.1 hjv).1
        simp [List.getElem?_append_left hlt, hjv]
      have hrun := Lib.run_append_grow_string (P := C.P) w t u op.type e inf (.int .u8 0) ht hu hi hz ⟨b, 0, none⟩ n cap xs (by rw [hs1]; simpa using hxl) holds s (by omega) (by omega) (by rw [hb1]; exact growslice_fits (by omega) (by omega))
      exact ⟨some (w.heap.size, grownCap w (n + s.size) cap e, _), _, f2, hex (by rw [e1, e2]; exact hrun), f1⟩
/-- unsafe.SliceData of a slice of one's own. -/
theorem Eff.sliceData {t : TypeId} {x : Operand} (ho : op.op = .call ⟨.builtin .unsafeSliceData, #[x], #[t]⟩) (own : Own) (hpos : ∀ p, own = some p → 0 < p.2.1) {n : Nat} (hx : opd Γ [] x = some (.slice own.a n own.c)) :
    Eff C R O Γ op Unit (fun _ => .pointer own.a) (fun _ => O) (fun _ => True) := by
  refine Eff.of_run fun a w hs hp => ⟨(), w, trivial, ?_, hp⟩
  have e1 := opd_ok hs (holds_nil _) hx
  have hrun : (Builtin.unsafeSliceData_ #[t] op.type #[.slice own.a n own.c]).run C.P w = .ok (.pointer own.a) w := by
    cases own with
    | none => rfl
    | some p =>
      have hp0 := hpos p rfl
      obtain ⟨b, cap, junk⟩ := p
      have hc : ¬ cap = 0 := by simp only at hp0; omega
      simp only [Own.a, Own.c]
      refine Eq.trans (b := Sem.run C.P (if cap ≠ 0 then pure (.pointer (some ⟨b, 0, none⟩)) else _) w) rfl ?_
      rw [if_pos hc]; rfl
  simp [execOp, ho, resolve, invoke, builtin, e1, hrun]
theorem liesAt_off {P : Program} {e : TypeId} (hc : P.cellsOf e = 1) (count off n : Nat) (hn : off + n ≤ count) : liesAt P P.depth e count off e n = true := by
  have hd : P.depth = (2 * (P.types.size + Made.depth) + 1) + 1 := rfl
  rw [hd]
  simp only [liesAt, Bool.or_eq_true]
  left
  rw [hd]
  simp [rowAt, hc, hn, sameLayout, Nat.mod_one]
theorem run_unsafeString {P : Program} {w : World} {pt it ty e : TypeId} (hp : P.underlying pt = some (.pointer e)) (hc : P.cellsOf e = 1) {g off cells : Nat} (hsh : w.shape? g = some (e, cells)) {l : List UInt8} (h0 : l ≠ []) (hn : off + l.length ≤ cells) (h63 : l.length ≤ 9223372036854775807)
    (hcell : ∀ j x, l[j]? = some x → w.cell? ((⟨g, off, none⟩ : Addr).add j) = some (.int .u8 x.toNat)) :
    (Builtin.unsafeString_ #[pt, it] ty #[.pointer (some ⟨g, off, none⟩), .int .i64 l.length]).run P w = .ok (.string ⟨l.toArray⟩) (w.freeze ⟨g, off, none⟩ l.length) := by
  have hl : l.length ≠ 0 := by simpa using h0
  have hlb := Lib.run_loadBytes (P := P) w l ⟨g, off, none⟩ .empty hcell
  have hlies := liesAt_off (P := P) hc (cells / P.cellsOf e) off l.length (by rw [hc]; simpa using hn)
  have h63' : ¬ (9223372036854775807 : Int) < (l.length : Int) := by omega
  refine Eq.trans (b := Sem.run P (Bind.bind (asInt (.int .i64 l.length)) _) w) rfl ?_
  have hmax : IntKind.i64.max = 9223372036854775807 := rfl
  have hneg : ¬ (l.length : Int) < 0 := by omega
  simp [asInt, asIntOf, hmax, h63', hneg, hl, variablesAt, hsh, elemOf, run_underlying' hp, hlies, hlb]
theorem ext_freeze (w : World) (b off n : Nat) : Ext [b] w (w.freeze ⟨b, off, none⟩ n) := by
  unfold World.freeze
  split
  · exact Ext.refl _ _
  · refine ⟨rfl, rfl, rfl, by simp, fun k hk hn => ?_⟩
    have : b ≠ k := fun e => hn (by simp [e])
    simp [Array.getElem?_modify, this]
/-- unsafe.String over the bytes of one's own: they are read, and left. -/
theorem Eff.unsafeStr {pt it e : TypeId} {x y : Operand} (ho : op.op = .call ⟨.builtin .unsafeString, #[x, y], #[pt, it]⟩) (hpt : C.P.underlying pt = some (.pointer e)) (hc : C.P.cellsOf e = 1) (own : Own) {l : List UInt8} (hok : OwnOk own 1 l.length (bv l).toList)
    (hx : opd Γ [] x = some (.pointer own.a)) (hy : opd Γ [] y = some (.int .i64 l.length)) (Fl T : List (Nat × Obj)) (hO : O = Fl ++ (own.o e (bv l).toList ++ T)) (h63 : l.length ≤ 9223372036854775807) :
    Eff C R O Γ op Unit (fun _ => .string ⟨l.toArray⟩) (fun _ => Fl ++ T) (fun _ => True) := by
  refine Eff.of_run fun a w hs hp => ?_
  have e1 := opd_ok hs (holds_nil _) hx
  have e2 := opd_ok hs (holds_nil _) hy
  have hex : ∀ {v : Value} {w' : World}, (Builtin.unsafeString_ #[pt, it] op.type #[a.eval x, a.eval y]).run C.P w = .ok v w' → (execOp a.eval op).run C.P w = .ok (.value v) w' := by
    intro v w' h
    simp [execOp, ho, resolve, invoke, builtin, h]
  have hperm : O.Perm (own.o e (bv l).toList ++ (Fl ++ T)) := by rw [hO]; exact List.perm_append_comm_assoc _ _ _
  have hp1 := hp.perm hperm
  have hsub : HP C.w0 C.M R (Fl ++ T) w := hp1.sub (List.sublist_append_right _ _)
  by_cases h0 : l = []
  · subst h0
    exact ⟨(), w, trivial, hex (by rw [e1, e2]; exact Lib.run_unsafeString_none w pt it op.type own.a), hsub⟩
  · obtain ⟨p, rfl⟩ := own_some hok (List.length_pos_iff.2 h0)
    obtain ⟨b, cap, junk⟩ := p
    have hb := hp1.own (b, .cells ((bv l).toList ++ junk).toArray e (0, 0)) (List.mem_cons_self ..)
    simp only at hb
    have hsh : w.shape? b = some (e, ((bv l).toList ++ junk).length) := by simp [World.shape?, hb]
    have hcell : ∀ j x, l[j]? = some x → w.cell? ((⟨b, 0, none⟩ : Addr).add j) = some (.int .u8 x.toNat) := fun j x hj => by
      rw [add_none, Nat.zero_add, cell_cells hb]
      have hlt : j < l.length := (List.getElem?_eq_some_iff.1 hj).1
      simp [bv_list, List.getElem?_append_left (show j < (l.map fun b => Value.int .u8 b.toNat).length by simpa using hlt), hj]
    have hrun := run_unsafeString (P := C.P) (w := w) (it := it) (ty := op.type) hpt hc hsh h0 (off := 0) (by rw [List.length_append, bv_len]; omega) h63 hcell
    refine ⟨(), _, trivial, hex (by rw [e1, e2]; exact hrun), ?_⟩
    refine hp1.call (ext_freeze w b 0 l.length) (Fl ++ T) (List.sublist_append_right _ _) (fun k hk => ?_) (fun x hx hm => ?_)
    · simp only [List.mem_cons, List.not_mem_nil, or_false] at hk
      subst hk
      exact List.mem_map.2 ⟨_, List.mem_append_left _ (List.mem_cons_self ..), rfl⟩
    · simp only [List.mem_cons, List.not_mem_nil, or_false] at hm
      have hd := hp1.dist
      rw [List.map_append] at hd
      exact (List.nodup_append.1 hd).2.2 b (by simp [Own.o]) x.1 (List.mem_map.2 ⟨x, hx, rfl⟩) hm.symm
/-- A pointer's conversion, or a comparison, that gives a known value. -/
theorem Eff.conv {src dst : TypeId} {x : Operand} {u : Value} (v : Value) (ho : op.op = .convert src dst x) (hx : opd Γ [] x = some u) (h : ∀ w, HP C.w0 C.M R O w → (convert src dst u).run C.P w = .ok v w) : Eff C R O Γ op Unit (fun _ => v) (fun _ => O) (fun _ => True) :=
  Eff.of_run fun a w hs hp => ⟨(), w, trivial, by simp [execOp, ho, opd_ok hs (holds_nil _) hx, h w hp], hp⟩
theorem Eff.neqSame {ty ty' e : TypeId} {x y : Operand} {p : Addr} (ho : op.op = .binOp .neq ty x y ty') (hx : opd Γ [] x = some (.pointer (some p))) (hy : opd Γ [] y = some (.pointer (some p))) (hu : C.P.underlying ty = some (.pointer e)) (hi : (C.P.info? e).isSome = true) :
    Eff C R O Γ op Unit (fun _ => .bool false) (fun _ => O) (fun _ => True) :=
  Eff.of_run fun a w hs hp => ⟨(), w, trivial, by
    obtain ⟨j, hj⟩ := Option.isSome_iff_exists.1 hi
    have hr := Lib.run_neq_ptr_same (P := C.P) w p hu hj
    have e1 := opd_ok hs (holds_nil _) hx
    have e2 := opd_ok hs (holds_nil _) hy
    simp [execOp, ho, e1, e2, hr, eqGuard], hp⟩
theorem shape_of {w : World} {b : Nat} {cs : Array Value} {t : TypeId} {fr : Nat × Nat} (h : w.heap[b]? = some (.cells cs t fr)) : w.shape? b = some (t, cs.size) := by simp [World.shape?, h]
theorem toUnsafe {P : Program} {w : World} {src dst t : TypeId} {b : Nat} {cs : Array Value} {fr : Nat × Nat} (hs : P.underlying src = some (.pointer t)) (hd : P.underlying dst = some .unsafePointer) (ht : (P.info? t).map (·.size) = some 2) (hb : w.heap[b]? = some (.cells cs t fr)) (h2 : cs.size = 2) :
    (convert src dst (.pointer (some ⟨b, 0, none⟩))).run P w = .ok (.pointer (some ⟨b, 0, none⟩)) w := by
  obtain ⟨j, hj, hj2⟩ := Option.map_eq_some_iff.1 ht
  exact Lib.run_to_unsafe w ⟨b, 0, none⟩ hs hd hj (by rw [hj2]; decide) (shape_of hb) (by show 0 < cs.size; omega)
theorem fromUnsafe {P : Program} {w : World} {src dst t : TypeId} {b : Nat} {cs : Array Value} {fr : Nat × Nat} (hs : P.underlying src = some .unsafePointer) (hd : P.underlying dst = some (.pointer t)) (ht : (P.info? t).map (·.size) = some 2) (hl : liesAt P P.depth t (2 / P.cellsOf t) 0 t 1 = true) (hb : w.heap[b]? = some (.cells cs t fr)) (h2 : cs.size = 2) :
    (convert src dst (.pointer (some ⟨b, 0, none⟩))).run P w = .ok (.pointer (some ⟨b, 0, none⟩)) w := by
  obtain ⟨j, hj, hj2⟩ := Option.map_eq_some_iff.1 ht
  exact Lib.run_from_unsafe w ⟨b, 0, none⟩ hs hd hj (shape_of hb) (by rw [h2]; exact hl)
end
end K
end Go.Proofs.YtdjpokckamlccaaGreatDoor
namespace Go.Proofs.YtdjpokckamlccaaGreatDoor
namespace K
set_option linter.unusedVariables false
def mkd (b : Nat) : Deferred := { target := .collected b, args := #[] }
/-- A call in which functions may be ranged over: what is asked at its end. -/
def Q0M (P : Program) (fn : Func) (post : Ending → World → Prop) : Exit → Act → World → Prop
  | .normal, a, w | .ret, a, w => LeavesInM Fence.wide 0 P fn a.tmps (noOut post) a.defers .returning w
  | _, _, _ => False
def Cx.marks (P : Program) (fn : Func) (post : Ending → World → Prop) (w0 : World) (M : List Nat) (D : List Nat) : Cx where
  P := P
  fn := fn
  post := post
  w0 := w0
  M := M
  ro := none
  D := D.map mkd
  Q0 := Q0M P fn post
  po := fun c a w d v h => h.elim
  lo := fun ⟨a, w, h⟩ => h.elim
  rt := fun h a w v hd hr hp => by
    rw [h] at hd
    have hx : LeavesInM Fence.wide 0 P fn a.tmps (noOut post) a.defers .returning w := by
      rw [hd]
      exact ⟨v, hr, by simp, hp⟩
    exact ⟨hx, hx⟩
section
variable {C : Cx} {R O : List (Nat × Obj)} {Γ Γ' : Env} {ks ks' : List KI} {ops : Array Oper}
/-- The record of a loop over a function. -/
def rec0 (fi : FuncId) (T : Array Value) (ps : Array Tmp) (assign body : Code) (dr : Nat) (st : LoopState) (pe : Option Code) : Loop := { state := st, pending := pe, fn := fi, tmps := T, params := ps, assign := assign, body := body, defers := dr }
/-- A range over a function, in no round. -/
theorem Cfg.range {P : Program} {fn fn' : Func} {c' : Code} {post : Ending → World → Prop} {w0 : World} {M D : List Nat} {g : Operand} {ps : Array Tmp} {assign body : Code} (hk : K.nrm 99 ks = .inl (.rangeFunc g ps assign body) :: ks')
    {f : FuncId} {caps : Array Value} (hg : opd Γ [] g = some (.func (.func f) #[] caps)) (hf : P.funcs[f]? = some fn') (hnm : (fn'.name == "runtime.NumGoroutine") = false) (hb : fn'.body = some c')
    {ι : Type} (F : ι → Prop) (O' : ι → List (Nat × Obj)) (st : ι → LoopState) (pe : ι → Option Code) (hst : ∀ x, (st x == LoopState.busy) = false)
    (hcall : ∀ (fi : FuncId) (l dr : Nat) (T : Array Value) (w1 : World), St fn.ntmps [] Γ { tmps := T, defers := [] } → w0.heap.size ≤ l → w0.heap.size ≤ dr → HP w0 M R ((l, .loop (rec0 fi T ps assign body dr .ready none)) :: (dr, .deferred (some [])) :: O) w1 →
      Calls P f (#[.func (.yield l) #[] #[]] ++ caps) w1 fun e w2 => (∃ v, e = .returned v) ∧ ∃ x, F x ∧ HP w0 M R ((l, .loop (rec0 fi T ps assign body dr (st x) (pe x))) :: (dr, .deferred (some [])) :: O' x) w2)
    (next : ∀ dr x, F x → Cfg (Cx.marks P fn post w0 M (dr :: D)) R ((dr, .deferred (some [])) :: O' x) Γ (match pe x with | none => ks' | some c => .inl c :: ks')) :
    Cfg (Cx.marks P fn post w0 M D) R O Γ ks := by
  refine Cfg.nrm ?_
  rw [hk]
  intro a w hs hp
  have hgv : a.eval g = .func (.func f) #[] caps := opd_ok hs (holds_nil _) hg
  have hs' : St fn.ntmps [] Γ { tmps := a.tmps, defers := [] } := ⟨hs.size, rfl, hs.sl⟩
  refine wpIn_rangeFunc fun fi _ => ?_
  have hp1 := (hp.alloc (.deferred (some []))).alloc (.loop (rec0 fi a.tmps ps assign body w.heap.size .ready none))
  have hsz : (w.alloc (.deferred (some []))).heap.size = w.heap.size + 1 := World.size_alloc ..
  rw [hsz] at hp1
  have hw0 : w0.heap.size ≤ w.heap.size := hp.ext.size
  let W1 : World := (w.alloc (.deferred (some []))).alloc (.loop (rec0 fi a.tmps ps assign body w.heap.size .ready none))
  refine ⟨w.heap.size + 1, [mkd w.heap.size], W1, { target := .fn (.func f) caps, args := #[.func (.yield (w.heap.size + 1)) #[] #[]] }, W1, f, #[.func (.yield (w.heap.size + 1)) #[] #[]] ++ caps, W1, run_enterLoop_outer _ _ _ _ _, ?_, fun _ _ => trivial, ?_, fun h => (by cases h), ?_⟩
  · simp only [resolve, hgv]
    simp [go_sem]
  · show (callFunc f (#[Value.func (.yield (w.heap.size + 1)) #[] #[]] ++ caps)).run P _ = _
    exact run_callFunc hf hnm hb
  · refine (callsIn_fen (ro := none) (hcall fi (w.heap.size + 1) w.heap.size a.tmps _ hs' (by omega) hw0 hp1)).mono ?_
    rintro e w2 ⟨⟨v, rfl⟩, x, hx, hp2⟩
    have g1 : w2.heap[w.heap.size + 1]? = some (.loop (rec0 fi a.tmps ps assign body w.heap.size (st x) (pe x))) := hp2.own _ (List.mem_cons_self ..)
    have hgo : (getObj (w.heap.size + 1)).run P w2 = .ok (.loop (rec0 fi a.tmps ps assign body w.heap.size (st x) (pe x))) w2 := by simp [getObj, Sem.run, g1]
    have hso : ∀ o, (setObj (w.heap.size + 1) o).run P w2 = .ok () { w2 with heap := w2.heap.setIfInBounds (w.heap.size + 1) o } := fun o => by simp [setObj, Sem.run, g1]
    have hend : (Instr.endLoop (w.heap.size + 1)).run P w2 = .ok (pe x) { w2 with heap := w2.heap.setIfInBounds (w.heap.size + 1) (.loop { rec0 fi a.tmps ps assign body w.heap.size (st x) (pe x) with state := .exhausted }) } := by
      have hbz : ((rec0 fi a.tmps ps assign body w.heap.size (st x) (pe x)).state == LoopState.busy) = false := hst x
      simp only [Instr.endLoop, Instr.getLoop, Sem.run_bind, hgo, Result.andThen_ok, Sem.run_pure, hbz, Bool.false_eq_true, if_false, hso]
      rfl
    have hp3 := hp2.set 0 (.loop { rec0 fi a.tmps ps assign body w.heap.size (st x) (pe x) with state := .exhausted }) rfl (w' := { w2 with heap := w2.heap.setIfInBounds (w.heap.size + 1) (.loop { rec0 fi a.tmps ps assign body w.heap.size (st x) (pe x) with state := .exhausted }) }) rfl rfl rfl rfl
    have hp4 := hp3.sub (O' := (w.heap.size, .deferred (some [])) :: O' x) (List.sublist_cons_self ..)
    have hs4 : St fn.ntmps ((w.heap.size :: D).map mkd) Γ { a with defers := [mkd w.heap.size] ++ a.defers } := ⟨hs.size, by show [mkd w.heap.size] ++ a.defers = _; rw [hs.dfr]; rfl, hs.sl⟩
    have hn := next w.heap.size x hx _ _ hs4 hp4
    refine ⟨pe x, _, hend, ?_⟩
    revert hn
    cases pe x with
    | none => exact fun hn => hn
    | some c => exact fun hn => hn
end
end K
end Go.Proofs.YtdjpokckamlccaaGreatDoor
namespace Go.Proofs.YtdjpokckamlccaaGreatDoor
namespace K
set_option linter.unusedVariables false
def Q0R (Z : Exit → World → Prop) : Exit → Act → World → Prop
  | .normal, _, w => Z .normal w
  | .ret, _, w => Z .ret w
  | .exit id, _, w => Z (.exit id) w
  | _, _, _ => False
/-- A walk in a round of the loop l. -/
def Cx.rnd (P : Program) (fn : Func) (l : Nat) (w0 : World) (M : List Nat) (Z : Exit → World → Prop) : Cx where
  P := P
  fn := fn
  post := fun _ _ => False
  w0 := w0
  M := M
  ro := some l
  D := []
  Q0 := Q0R Z
  po := fun c a w d v h => h.elim
  lo := fun ⟨a, w, h⟩ => h.elim
  rt := fun _ a w v _ _ h => h.elim
section
variable {P : Program} {fn : Func} {l : Nat} {w0 : World} {M : List Nat} {Z : Exit → World → Prop} {R O : List (Nat × Obj)} {Γ Γ' : Env} {ks ks' : List KI} {ops : Array Oper}
end
section
variable {C : Cx} {R O : List (Nat × Obj)} {Γ : Env} {ks : List KI} {ops : Array Oper}
/-- What an operation comes to that may ask for a round. -/
def EffI (C : Cx) (R O : List (Nat × Obj)) (Γ : Env) (o : Oper) (ι : Type) (V : ι → Value) (O' : ι → List (Nat × Obj)) (F : ι → Prop) : Prop :=
  ∀ a w, St C.fn.ntmps C.D Γ a → HP C.w0 C.M R O w → ∀ (Kt : Act → World → Prop) (Q : Exit → Act → World → Prop),
    (∀ x w', F x → HP C.w0 C.M R (O' x) w' → Kt (a.put o.dst (V x)) w') → o.wpIn (fen C.ro) 0 C.P a w Kt Q
/-- The call of yield: of the own things O = Fl ++ (A ++ T) the round makes A' x of A. -/
theorem EffI.yield {o : Oper} {g : Operand} {xs : List Operand} {tys : Array TypeId} {vs : List Value} {l : Nat} {fi : FuncId} {T : Array Value} {ps : Array Tmp} {assign body : Code} {dr : Nat} {st : LoopState} {pe : Option Code}
    {ι : Type} (V : ι → Value) (A : List (Nat × Obj)) (A' : ι → List (Nat × Obj)) (F : ι → Prop) (Fl Tl : List (Nat × Obj)) (hO : O = Fl ++ (A ++ Tl)) (ho : o.op = .call ⟨.value g, xs.toArray, tys⟩)
    (hgv : opd Γ [] g = some (.func (.yield l) #[] #[])) (hx : opds Γ xs = some vs) (hps : vs.length = ps.size) (hl : (l, Obj.loop (rec0 fi T ps assign body dr st pe)) ∈ A)
    (h : ∀ w, Has w A → (A.map (·.1)).Nodup → RoundIn Fence.wide 0 C.P l fi ((ps.zip vs.toArray).foldl (fun tmps (t, a) => tmps.setIfInBounds t a) T) assign body w fun e w' => ∃ x, F x ∧ e = .returned (V x) ∧ ∃ R1, HP w (A.map (·.1)) R1 (A' x) w') :
    EffI C R O Γ o ι V (fun x => Fl ++ (A' x ++ Tl)) F := by
  intro a w hs hp Kt Q hK
  have hp1 : HP C.w0 C.M R (A ++ (Fl ++ Tl)) w := hp.perm (by rw [hO]; exact List.perm_append_comm_assoc _ _ _)
  have hargs := opds_ok hs hx
  have hgv' : a.eval g = .func (.yield l) #[] #[] := opd_ok hs (holds_nil _) hgv
  have hlw : w.heap[l]? = some (.loop (rec0 fi T ps assign body dr st pe)) := hp1.own _ (List.mem_append_left _ hl)
  have hy := run_yield (P := C.P) (args := vs.toArray) hlw (by rw [List.size_toArray]; exact hps)
  have hrun : (execOp a.eval o).run C.P w = .ok (.round l fi ((ps.zip vs.toArray).foldl (fun tmps (t, a) => tmps.setIfInBounds t a) T) assign body) w := by
    have e : #[] ++ (xs.toArray.map a.eval) = vs.toArray := by
      rw [← hargs]; simp
    simp only [execOp, ho, resolve, hgv', Deferred.ofValue, Sem.run_bind, Sem.run_pure, Result.andThen_ok, invoke]
    rw [e]
    exact hy
  refine ⟨fun _ _ => trivial, ?_⟩
  rw [semAt_run hrun (fun d hd => by cases hd), Oper.uponIn_round]
  refine ⟨fun h => (by cases h), ?_⟩
  have h1 := (h w (fun e he => hp1.own e (List.mem_append_left _ he)) (nodup_left hp1.dist))
  have h2 : RoundIn (fen C.ro) 0 C.P l fi ((ps.zip vs.toArray).foldl (fun tmps (t, a) => tmps.setIfInBounds t a) T) assign body w _ := h1
  refine h2.mono ?_
  rintro e w' ⟨x, hF, rfl, R1, hp'⟩
  exact hK x _ hF ((hp1.swap hp').perm (List.perm_append_comm_assoc _ _ _))
end
end K
end Go.Proofs.YtdjpokckamlccaaGreatDoor
namespace Go.Proofs.YtdjpokckamlccaaGreatDoor
namespace K
set_option linter.unusedVariables false
/-- What is visited: up to the first that is refused. -/
def vis {α : Type} (p : α → Bool) : List α → List α
  | [] => []
  | x :: l => x :: (if p x then vis p l else [])
section
variable {w0 w w' : World} {M : List Nat} {R O : List (Nat × Obj)}
end
/-- An iterator's contract: it calls yield with the items, one by one, till it says no. -/
def IterSpec {α : Type} (P : Program) (f : FuncId) (caps : Array Value) (Need : List (Nat × Obj)) (items : List α) (val : α → Value) : Prop :=
  ∀ (l dr : Nat) (fi : FuncId) (T : Array Value) (ps : Array Tmp) (assign body : Code) (σ : Type) (A : σ → List (Nat × Obj)) (J : List α → σ → Prop) (s0 : σ) (p : α → Bool) (w : World), ps.size = 1 → J [] s0 → Has w (A s0) → ((A s0).map (·.1)).Nodup →
    (∀ pre x, (∀ y ∈ pre, p y = true) → J pre x → (∀ e ∈ Need, e ∈ A x) ∧ (l, Obj.loop (rec0 fi T ps assign body dr .ready none)) ∈ A x) →
    (∀ pre x a rest, (∀ y ∈ pre, p y = true) → J pre x → items = pre ++ a :: rest → ∀ w, Has w (A x) → ((A x).map (·.1)).Nodup →
      RoundIn Fence.wide 0 P l fi ((ps.zip #[val a]).foldl (fun tmps (t, a) => tmps.setIfInBounds t a) T) assign body w fun e w' => ∃ y, J (pre ++ [a]) y ∧ e = .returned (.bool (p a)) ∧ ∃ R1, HP w ((A x).map (·.1)) R1 (A y) w') →
    Calls P f (#[.func (.yield l) #[] #[]] ++ caps) w fun e w' => ∃ y, J (vis p items) y ∧ e = .returned (.tuple #[]) ∧ ∃ R1, HP w ((A s0).map (·.1)) R1 (A y) w'
/-- An iterator that has no items: it gives back, and changes nothing. -/
theorem IterSpec.none {α : Type} {P : Program} {f : FuncId} {caps : Array Value} {Need : List (Nat × Obj)} {val : α → Value} (h : ∀ (l : Nat) (w : World), Has w Need → Calls P f (#[.func (.yield l) #[] #[]] ++ caps) w fun e w' => e = .returned (.tuple #[]) ∧ Ext [] w w') :
    IterSpec P f caps Need ([] : List α) val := by
  intro l dr fi T ps assign body σ A J s0 p w _ hJ hA hd hm _
  refine (h l w (fun e he => hA e ((hm [] s0 (fun y hy => by cases hy) hJ).1 e he))).mono ?_
  rintro e w' ⟨rfl, hx⟩
  exact ⟨s0, hJ, rfl, [], (HP.ofL hA hd (fun e he => by cases he) (fun e he => by cases he)).calm hx⟩
section
variable {P : Program} {fn : Func} {post : Ending → World → Prop} {w0 : World} {M D : List Nat} {R O : List (Nat × Obj)} {Γ : Env} {ks ks' : List KI}
end
section
variable {P : Program} {fn : Func} {post : Ending → World → Prop} {w0 : World} {M D : List Nat} {R O : List (Nat × Obj)} {Γ : Env} {ks ks' : List KI}
end
end K
end Go.Proofs.YtdjpokckamlccaaGreatDoor
namespace Go.Proofs.YtdjpokckamlccaaGreatDoor
namespace K
section
variable {C : Cx} {R O : List (Nat × Obj)} {Γ : Env} {op : Oper}
/-- A call of a function value, by the function's contract. -/
theorem Eff.callV {x : Operand} {f : FuncId} {fn : Func} {c : Code} {xs : List Operand} {tys : Array TypeId} (ho : op.op = .call ⟨.value x, xs.toArray, tys⟩) (hxv : opd Γ [] x = some (.func (.func f) #[] #[])) (hf : C.P.funcs[f]? = some fn) (hnm : (fn.name == "runtime.NumGoroutine") = false) (hb : fn.body = some c)
    {vs : List Value} (hx : opds Γ xs = some vs) {ι : Type} {V : ι → Value} {O' : ι → List (Nat × Obj)} {F : ι → Prop}
    (h : ∀ w, HP C.w0 C.M R O w → Calls C.P f vs.toArray w fun e w' => ∃ x, F x ∧ e = .returned (V x) ∧ HP C.w0 C.M R (O' x) w') : Eff C R O Γ op ι V O' F := by
  intro a w hs hp Kt Q hK
  have hargs := opds_ok hs hx
  have hv := opd_ok hs (holds_nil _) hxv
  have hrun : (execOp a.eval op).run C.P w = .ok (.enter f vs.toArray) w := by
    simp [execOp, ho, resolve, Deferred.ofValue, hv, invoke, hargs, run_callFunc hf hnm hb]
  unfold Oper.wp
  rw [hrun]
  refine (h w hp).mono ?_
  rintro e w' ⟨x, hx, rfl, hp'⟩
  exact hK x w' hx hp'
end
end K
end Go.Proofs.YtdjpokckamlccaaGreatDoor

namespace Go.Proofs.YtdjpokckamlccaaGreatDoor
namespace K
/-- A row that was made of a text, or grew out of one: its block, its capacity, the cells behind its elements, whether it bears the mark. -/
structure MO where
  b : Nat
  cap : Nat
  junk : List Value
  mark : Bool
def MO.fr (o : MO) : Nat × Nat := bif o.mark then (o.cap, o.cap + 1) else (0, 0)
def MO.o (e : TypeId) (xs : List Value) (o : MO) : List (Nat × Obj) := [(o.b, .cells (xs ++ o.junk).toArray e o.fr)]
section
variable {C : Cx} {R O : List (Nat × Obj)} {Γ : Env} {op : Oper}
end
end K
end Go.Proofs.YtdjpokckamlccaaGreatDoor

namespace Go.Proofs.YtdjpokckamlccaaGreatDoor
namespace K
def AllI (C : Cx) (R Os O : List (Nat × Obj)) (Γ : Env) (ops : Array Oper) (fuel : Nat) (l : Array Bool) (ks : List KI) : List Nat → Prop
  | [] => True
  | i :: is => CfgI C R Os O Γ ops fuel l i ks ∧ AllI C R Os O Γ ops fuel l ks is
section
variable {C : Cx} {R O O' Os : List (Nat × Obj)} {Γ Γ' : Env} {ks : List KI} {ops : Array Oper} {fuel fuel' : Nat} {l l' : Array Bool}
theorem AllI.at : ∀ {is : List Nat}, AllI C R Os O Γ ops fuel l ks is → ∀ k ∈ is, CfgI C R Os O Γ ops fuel l k ks
  | [], _, k, hk => by cases hk
  | i :: is, h, k, hk => by
    rcases List.mem_cons.1 hk with rfl | hk
    · exact h.1
    · exact h.2.at k hk
theorem CfgA.to (h : CfgA C R Os O' Γ' ops fuel' l' ks) (hl : l = l') (hf : fuel = fuel') (hp : O.Perm O') (hc : Conv Γ Γ') : CfgA C R Os O Γ ops fuel l ks := by
  subst hl; subst hf
  exact fun a w hs hw => h a w (hc.st hs) (hw.perm hp)
theorem CfgA.nx {ι : Type} {Γi : ι → Env} {Oi : ι → List (Nat × Obj)} {li : ι → Array Bool} {fi : ι → Nat} {I : ι → Prop} {i : ι} (IH : ∀ j, I j → fi j < fi i → CfgA C R Os (Oi j) (Γi j) ops (fi j) (li j) ks) (j : ι) (hj : I j) (hp : O.Perm (Oi j))
    (hlt : Nat.blt (fi j) (fi i) = true := by kernel_rfl) (hl : l = li j := by kernel_rfl) (hf : fuel = fi j := by kernel_rfl) (hc : ((Γi j).map fun e => find Γ e.1) = (Γi j).map fun e => some e.2 := by kernel_rfl) : CfgA C R Os O Γ ops fuel l ks :=
  (IH j hj (by rw [Nat.blt_eq] at hlt; exact hlt)).to hl hf hp (Conv.mk hc)
end
end K
end Go.Proofs.YtdjpokckamlccaaGreatDoor
namespace Go.Proofs.YtdjpokckamlccaaGreatDoor
namespace K
def n0 : (World → Prop) → List Prop := fun _ => []
def evG (C : Cx) (R O : List (Nat × Obj)) (Γ : Env) (ops : Array Oper) (l : List Oper) (ds : List Dir) (kp : Option (List Nat)) : Env :=
  match evR C (HP C.w0 C.M R O) Γ ops l ds kp with
  | some r => r.1
  | none => []
def evN (C : Cx) (R O : List (Nat × Obj)) (Γ : Env) (ops : Array Oper) (l : List Oper) (ds : List Dir) (kp : Option (List Nat)) : Option (List Prop) :=
  match evR C (HP C.w0 C.M R O) Γ ops l ds kp with
  | some r => some r.2
  | none => none
section
variable {C : Cx} {R O Os Os' : List (Nat × Obj)} {Γ Γ' : Env} {ks ks' : List KI} {nd : (World → Prop) → List Prop} {ops : Array Oper}
theorem evG_some {l : List Oper} {ds : List Dir} {kp : Option (List Nat)} {n : List Prop} (h : evN C R O Γ ops l ds kp = some n) : evR C (HP C.w0 C.M R O) Γ ops l ds kp = some (evG C R O Γ ops l ds kp, n) := by
  unfold evN at h
  unfold evG
  split at h
  · rename_i r hr
    rw [hr]
    obtain ⟨a, b⟩ := r
    simp only [Option.some.injEq] at h
    rw [h]
  · cases h
theorem Rg (kp : List Nat) (ds : List Dir) (nd : (World → Prop) → List Prop) (hn : All (nd (HP C.w0 C.M R O))) {id : Nat} (h : Cfg C R O (evG C R O Γ ops ops.toList ds (some kp)) ks') (hk : K.nrm 99 ks = .inl (.region id ops false) :: ks' := by rfl)
    (he : evN C R O Γ ops ops.toList ds (some kp) = some (nd (HP C.w0 C.M R O)) := by kernel_rfl) : Cfg C R O Γ ks := by
  refine Cfg.nrm ?_
  rw [hk]
  intro a w hs hp
  obtain ⟨hsel, Γ2, he2, hw⟩ := evR_some (evG_some he)
  refine wpIn_region_list ?_
  have := wplIn_pure (ro := C.ro) (Q := C.Q ks') (l2 := []) (w := w) ops.toList ds Γ a (sel_all hsel (fun _ h => h)) hs he2 hn.mem hp (fun a' hs' => h a' w (hw _ _ _ hs') hp)
  simpa using this
theorem Lp {rest : List Oper} (k : Nat) (ds : List Dir) (kp : Option (List Nat)) (nd : (World → Prop) → List Prop) (hn : All (nd (HP C.w0 C.M R O))) (h : CfgL C R O (evG C R O Γ ops (rest.take k) ds kp) ops (rest.drop k) ks)
    (hm : (rest.all fun o => match o.op with | .select .. => false | _ => true) = true := by kernel_rfl) (he : evN C R O Γ ops (rest.take k) ds kp = some (nd (HP C.w0 C.M R O)) := by kernel_rfl) : CfgL C R O Γ ops rest ks := by
  intro a w hs hp
  obtain ⟨hsel, Γ2, he2, hw⟩ := evR_some (evG_some he)
  have := wplIn_pure (ro := C.ro) (Q := C.Q ks) (l2 := rest.drop k) (w := w) (rest.take k) ds Γ a (fun o ho cs b hh => by
    have := List.all_eq_true.1 hm o (List.mem_of_mem_take ho)
    simp [hh] at this) hs he2 hn.mem hp (fun a' hs' => h a' w (hw _ _ _ hs') hp)
  rwa [List.take_append_drop] at this
theorem Ap {fuel : Nat} {l : Array Bool} (is : List Nat) (ds : List Dir) (kp : Option (List Nat)) (l' : Array Bool) (hO : Os.Sublist O) (fuel' : Nat) (nd : (World → Prop) → List Prop) (hn : All (nd (HP C.w0 C.M R Os)))
    (h : CfgA C R Os O (evG C R Os Γ ops ((opsAt ops is).getD []) ds kp) ops fuel' l' ks) (ht : takes .any ops l is = some l' := by kernel_rfl) (ho0 : (opsAt ops is).isSome = true := by kernel_rfl) (hf : fuel = fuel' + is.length := by rfl)
    (he : evN C R Os Γ ops ((opsAt ops is).getD []) ds kp = some (nd (HP C.w0 C.M R Os)) := by kernel_rfl) : CfgA C R Os O Γ ops fuel l ks := by
  intro a w hs hp
  obtain ⟨hsel, Γ2, he2, hw⟩ := evR_some (evG_some he)
  obtain ⟨os, ho⟩ := Option.isSome_iff_exists.1 ho0
  rw [ho, Option.getD_some] at he2
  rw [ho, Option.getD_some] at hw h
  subst hf
  exact any_pure (Q := C.Q ks) (w := w) hsel (panicOk C ks) is os ds l Γ a ht ho hs he2 hn.mem (hp.sub hO) (fun a' hs' => h a' w (hw _ _ _ hs') hp)
theorem Le {rest' : List Oper} {o : Oper} {ι : Type} {V : ι → Value} {O' : ι → List (Nat × Obj)} {F : ι → Prop} (he : Eff C R O Γ o ι V O' F)
    (h : ∀ x, F x → CfgL C R (O' x) (putO Γ o.dst (V x)) ops rest' ks) (hd : DstOk C.fn.ntmps o = true := by kernel_rfl) (hg : guardV Γ ops o = guardW o := by kernel_rfl) (hnd : ndf o = true := by kernel_rfl) : CfgL C R O Γ ops (o :: rest') ks := CfgL.eff rfl hd hg he h hnd
theorem Ae {fuel : Nat} {l : Array Bool} (i : Nat) {o : Oper} (ho : ops[i]? = some o) (fuel' : Nat) {ι : Type} {V : ι → Value} {O' : ι → List (Nat × Obj)} {F : ι → Prop} (he : Eff C R O Γ o ι V O' F) (hO : ∀ x, F x → Os.Sublist (O' x))
    (h : ∀ x, F x → CfgA C R Os (O' x) (putO Γ o.dst (V x)) ops fuel' (l.setIfInBounds i true) ks) (hr : Region.ready .any ops l = [i] := by kernel_rfl) (hf : fuel = fuel' + 1 := by rfl) (hd : DstOk C.fn.ntmps o = true := by kernel_rfl) (hg : guardV Γ ops o = guardW o := by kernel_rfl) : CfgA C R Os O Γ ops fuel l ks := CfgA.eff i ho hr hf hd hg he hO h
theorem wpAnyH_weak {P : Program} {md : Region.Mode} {Q : Exit → Act → World → Prop} {S S' : World → Prop} (hS : ∀ w, S' w → S w) : ∀ (fuel : Nat) (l : Array Bool) (a : Act) (w : World), wpAnyH P md ops Q S' fuel l a w → wpAnyH P md ops Q S fuel l a w
  | 0, _, _, _, h => h
  | fuel + 1, _, _, _, h => ⟨h.1, fun i hi => wpOp_mono (fun a' w' h' => ⟨hS _ h'.1, wpAnyH_weak hS fuel _ a' w' h'.2⟩) (h.2 i hi)⟩
/-- From here on more of memory stays as it is. -/
theorem CfgA.grow {fuel : Nat} {l : Array Bool} (Os' : List (Nat × Obj)) (hs : Os.Sublist Os') (h : CfgA C R Os' O Γ ops fuel l ks) : CfgA C R Os O Γ ops fuel l ks := fun a w ha hp => wpAnyH_weak (fun _ hw => hw.sub hs) _ _ _ _ (h a w ha hp)
theorem Cg (h : Cfg C R O Γ' ks) (hc : (Γ'.map fun e => find Γ e.1) = Γ'.map fun e => some e.2 := by kernel_rfl) : Cfg C R O Γ ks := Conv.cfg (Conv.mk hc) h
end
end K
end Go.Proofs.YtdjpokckamlccaaGreatDoor
namespace Go.Proofs.YtdjpokckamlccaaGreatDoor
open K
set_option linter.unusedVariables false
set_option maxRecDepth 100000 in
theorem bCheck0 (b : Nat) (v : Value) (w : World) (hB : w.heap[b]? = some (.cells #[.pointer none, v] 198 (0, 0))) :
    Calls Tryz.prog 175 #[.pointer (some ⟨b, 0, none⟩)] w fun e w' => e = .returned (.tuple #[]) ∧ Ext [b] w w' ∧ w'.heap[b]? = some (.cells #[.pointer (some ⟨b, 0, none⟩), v] 198 (0, 0)) := by
  refine enter (vs := [.pointer (some ⟨b, 0, none⟩)]) [b] [] [(b, .cells #[.pointer none, v] 198 (0, 0))] Tryz.func175 rfl (by kernel_rfl) (HP.startM (R := []) (fun _ h => by cases h) hB (by simp)) ?_
  refine Rg [0, 6] [(0, false, none), (0, false, none), (0, false, none), (0, false, some (.pointer none))] (fun S => [(∀ w1, S w1 → w1.cell? ⟨b, 0, none⟩ = some (.pointer none))]) ⟨(fun w1 h => h.ocell 0 rfl rfl), trivial⟩ ?_
  refine Cfg.condT rfl (b := true) (by kernel_rfl) rfl ?_
  refine Cfg.begL rfl ?_
  refine Lp 2 [] (some [7, 8]) n0 trivial ?_
  refine Le  (Eff.conv (u := .pointer (some ⟨b, 0, none⟩)) (.pointer (some ⟨b, 0, none⟩)) rfl (by kernel_rfl) (fun w1 h => toUnsafe Tryz.underlying196 Tryz.underlying315 (by kernel_rfl) (h.own (b, _) (List.mem_cons_self ..)) rfl)) ?_
  rintro ⟨⟩ -
  refine Le  (Eff.callE (vs := [.pointer (some ⟨b, 0, none⟩)]) (.pointer (some ⟨b, 0, none⟩)) (e := Extern.AbiNoEscape.same) rfl Tryz.func226 rfl rfl (by kernel_rfl) (by kernel_rfl) (by kernel_rfl) (fun w1 h => rfl)) ?_
  rintro ⟨⟩ -
  refine Le  (Eff.conv (u := .pointer (some ⟨b, 0, none⟩)) (.pointer (some ⟨b, 0, none⟩)) rfl (by kernel_rfl) (fun w1 h => fromUnsafe Tryz.underlying315 Tryz.underlying196 (by kernel_rfl) (by kernel_rfl) (h.own (b, _) (List.mem_cons_self ..)) rfl)) ?_
  rintro ⟨⟩ -
  refine Lp 2 [] (some [11, 13]) n0 trivial ?_
  refine Le  (Eff.store1 (b := b) (off := 0) (v := .pointer (some ⟨b, 0, none⟩)) rfl (by kernel_rfl) (by kernel_rfl) rfl (by kernel_rfl) 0 (cs := #[.pointer none, v]) (e := 198) (by kernel_rfl) (Nat.zero_lt_succ 1)) ?_
  rintro ⟨⟩ -
  refine CfgL.done rfl ?_
  refine Cg (Γ' := []) ?_
  refine Cfg.fin rfl (rs := []) rfl [] trivial (fun w1 hp => ?_)
  exact ⟨rfl, hp.ext, hp.own (b, _) (List.mem_cons_self ..)⟩
set_option maxRecDepth 100000 in
theorem bCheck1 (b : Nat) (v : Value) (w : World) (hB : w.heap[b]? = some (.cells #[.pointer (some ⟨b, 0, none⟩), v] 198 (0, 0))) :
    Calls Tryz.prog 175 #[.pointer (some ⟨b, 0, none⟩)] w fun e w' => e = .returned (.tuple #[]) ∧ Ext [b] w w' ∧ w'.heap[b]? = some (.cells #[.pointer (some ⟨b, 0, none⟩), v] 198 (0, 0)) := by
  refine enter (vs := [.pointer (some ⟨b, 0, none⟩)]) [b] [] [(b, .cells #[.pointer (some ⟨b, 0, none⟩), v] 198 (0, 0))] Tryz.func175 rfl (by kernel_rfl) (HP.startM (R := []) (fun _ h => by cases h) hB (by simp)) ?_
  refine Rg [0, 6] [(0, false, none), (0, false, none), (0, false, none), (0, false, some (.pointer (some ⟨b, 0, none⟩)))] (fun S => [(∀ w1, S w1 → w1.cell? ⟨b, 0, none⟩ = some (.pointer (some ⟨b, 0, none⟩)))]) ⟨(fun w1 h => h.ocell 0 rfl rfl), trivial⟩ ?_
  refine Cfg.condF rfl (b := false) (by kernel_rfl) rfl ?_
  refine Cfg.begL rfl ?_
  refine Lp 5 [(0, false, none), (0, false, none), (0, false, none), (0, false, some (.pointer (some ⟨b, 0, none⟩)))] (some [17, 18]) (fun S => [(∀ w1, S w1 → w1.cell? ⟨b, 0, none⟩ = some (.pointer (some ⟨b, 0, none⟩)))]) ⟨(fun w1 h => h.ocell 0 rfl rfl), trivial⟩ ?_
  refine Le  (Eff.neqSame rfl (p := ⟨b, 0, none⟩) (by kernel_rfl) (by kernel_rfl) Tryz.underlying196 (by kernel_rfl)) ?_
  rintro ⟨⟩ -
  refine CfgL.done rfl ?_
  refine Cg (Γ' := [(19, [], .bool false)]) ?_
  refine Cfg.condF rfl (b := false) (by kernel_rfl) rfl ?_
  refine Cfg.fin rfl (rs := []) rfl [] trivial (fun w1 hp => ?_)
  exact ⟨rfl, hp.ext, hp.own (b, _) (List.mem_cons_self ..)⟩
theorem bCheck (b : Nat) (p v : Value) (w : World) (hp : p = .pointer none ∨ p = .pointer (some ⟨b, 0, none⟩)) (hB : w.heap[b]? = some (.cells #[p, v] 198 (0, 0))) :
    Calls Tryz.prog 175 #[.pointer (some ⟨b, 0, none⟩)] w fun e w' => e = .returned (.tuple #[]) ∧ Ext [b] w w' ∧ w'.heap[b]? = some (.cells #[.pointer (some ⟨b, 0, none⟩), v] 198 (0, 0)) := by
  rcases hp with rfl | rfl
  · exact bCheck0 b v w hB
  · exact bCheck1 b v w hB
set_option maxRecDepth 100000 in
theorem bWriteString (b : Nat) (l : List UInt8) (B : Bd) (s : ByteArray) (w : World) (hok : BdOk b l B) (hh : Has w (bl 198 5 b l B)) (hd : ((bl 198 5 b l B).map (·.1)).Nodup) (hr : l.length + s.size ≤ 140737488355328) :
    Calls Tryz.prog 162 #[.pointer (some ⟨b, 0, none⟩), .string s] w fun e w' => ∃ B' : Bd, BdOk b (l ++ s.data.toList) B' ∧ e = .returned (.tuple #[.int .i64 (s.size : Int), .nilIface]) ∧ ∃ R1, HP w ((bl 198 5 b l B).map (·.1)) R1 (bl 198 5 b (l ++ s.data.toList) B') w' := by
  refine enter (vs := [.pointer (some ⟨b, 0, none⟩), .string s]) ((bl 198 5 b l B).map (·.1)) [] ([(b, .cells #[B.1, .slice (Own.a B.2) l.length (Own.c B.2)] 198 (0, 0))] ++ (Own.o 5 ((bv l).toList) B.2 ++ [])) Tryz.func162 rfl (by kernel_rfl) (bl_start hh hd (R := []) (fun _ h => by cases h) (fun _ h => by cases h)) ?_
  refine Rg [0, 1] [] n0 trivial ?_
  refine Cfg.begL rfl ?_
  refine Lp 1 [] none n0 trivial ?_
  refine Le  (Eff.callM (vs := [.pointer (some ⟨b, 0, none⟩)]) (.tuple #[]) 0 (b := b) (ob := .cells #[B.1, .slice (Own.a B.2) l.length (Own.c B.2)] 198 (0, 0)) (.cells #[.pointer (some ⟨b, 0, none⟩), .slice (Own.a B.2) l.length (Own.c B.2)] 198 (0, 0)) rfl Tryz.func175 rfl rfl (by kernel_rfl) (by kernel_rfl) (fun w1 h => bCheck b B.1 (.slice (Own.a B.2) l.length (Own.c B.2)) w1 hok.ptr (h.own (b, _) (List.mem_cons_self ..)))) ?_
  rintro ⟨⟩ -
  refine CfgL.done rfl ?_
  refine Cg (Γ' := [(0, [], .pointer (some ⟨b, 0, none⟩)), (1, [], .string s)]) ?_
  refine Cfg.begL rfl ?_
  refine Lp 6 [(0, false, none), (0, false, none), (0, false, none), (0, false, none), (0, false, some (.slice (Own.a B.2) l.length (Own.c B.2)))] (some [1, 8, 12, 13]) (fun S => [(∀ w1, S w1 → w1.cell? ⟨b, 1, none⟩ = some (.slice (Own.a B.2) l.length (Own.c B.2)))]) ⟨(fun w1 h => h.ocell 0 rfl rfl), trivial⟩ ?_
  refine Le  (Eff.appendS rfl Tryz.underlying154 Tryz.underlying9 (by kernel_rfl) (by kernel_rfl) B.2 hok.own hok.pos (by kernel_rfl) (s := s) (by kernel_rfl) [(b, .cells #[.pointer (some ⟨b, 0, none⟩), .slice (Own.a B.2) l.length (Own.c B.2)] 198 (0, 0))] [] rfl hr) ?_
  rintro o ⟨ko, kp⟩
  refine Lp 2 [] (some [1, 14, 16]) n0 trivial ?_
  refine Le  (Eff.store1 (b := b) (off := 1) (v := .slice (Own.a o) ((l.length + s.size)) (Own.c o)) rfl (by kernel_rfl) (by kernel_rfl) rfl (by kernel_rfl) 0 (cs := #[.pointer (some ⟨b, 0, none⟩), .slice (Own.a B.2) l.length (Own.c B.2)]) (e := 198) (by kernel_rfl) (Nat.lt_succ_self 1)) ?_
  rintro ⟨⟩ -
  refine CfgL.done rfl ?_
  refine Cg (Γ' := [(1, [], .string s)]) ?_
  refine Rg [4, 5] [] n0 trivial ?_
  refine Cfg.ret rfl (rs := [.tmp 4, .tmp 5]) rfl [.int .i64 (s.size : Int), .nilIface] ⟨by kernel_rfl, by kernel_rfl, trivial⟩ (fun w1 hp => ?_)
  rw [bv_app] at hp ko
  have hlen : l.length + s.size = (l ++ s.data.toList).length := by rw [List.length_append, ba_len]
  rw [hlen] at ko hp
  exact ⟨(.pointer (some ⟨b, 0, none⟩), o), ⟨.inr rfl, ko, kp⟩, rfl, _, bl_end hp⟩
set_option maxRecDepth 100000 in
theorem bString (b : Nat) (l : List UInt8) (B : Bd) (w : World) (hok : BdOk b l B) (hh : Has w (bl 198 5 b l B)) (hd : ((bl 198 5 b l B).map (·.1)).Nodup) (hr : l.length ≤ 140737488355328) :
    Calls Tryz.prog 109 #[.pointer (some ⟨b, 0, none⟩)] w fun e w' => ∃ _ : Unit, True ∧ e = .returned (.string ⟨l.toArray⟩) ∧ ∃ R1, HP w ((bl 198 5 b l B).map (·.1)) R1 [] w' := by
  refine enter (vs := [.pointer (some ⟨b, 0, none⟩)]) ((bl 198 5 b l B).map (·.1)) [] ([(b, .cells #[B.1, .slice (Own.a B.2) l.length (Own.c B.2)] 198 (0, 0))] ++ (Own.o 5 ((bv l).toList) B.2 ++ [])) Tryz.func109 rfl (by kernel_rfl) (bl_start hh hd (R := []) (fun _ h => by cases h) (fun _ h => by cases h)) ?_
  refine Rg [0] [] n0 trivial ?_
  refine Cfg.begA rfl (by kernel_rfl) [(b, .cells #[B.1, .slice (Own.a B.2) l.length (Own.c B.2)] 198 (0, 0))] ?_
  refine Ap [0, 1, 2, 3, 5, 6, 7, 8, 9] [(0, false, none), (0, false, none), (0, false, none), (0, false, some (.slice (Own.a B.2) l.length (Own.c B.2))), (0, false, none), (0, false, none), (0, false, none), (0, false, some (.slice (Own.a B.2) l.length (Own.c B.2)))] (some [6, 12]) #[true, true, true, true, false, true, true, true, true, true, false, false] (.cons_cons _ (List.nil_sublist _)) 3 (fun S => [(∀ w1, S w1 → w1.cell? ⟨b, 1, none⟩ = some (.slice (Own.a B.2) l.length (Own.c B.2))), (∀ w1, S w1 → w1.cell? ⟨b, 1, none⟩ = some (.slice (Own.a B.2) l.length (Own.c B.2)))]) ⟨(fun w1 h => h.ocell 0 rfl rfl), (fun w1 h => h.ocell 0 rfl rfl), trivial⟩ ?_
  refine Ae 4 rfl 2  (Eff.sliceData rfl B.2 hok.pos (n := l.length) (by kernel_rfl)) (fun _ _ => (.cons_cons _ (List.nil_sublist _))) ?_
  rintro ⟨⟩ -
  refine Ae 10 rfl 1  (Eff.unsafeStr rfl Tryz.underlying273 (by kernel_rfl) B.2 hok.own (by kernel_rfl) (by kernel_rfl) [(b, .cells #[B.1, .slice (Own.a B.2) l.length (Own.c B.2)] 198 (0, 0))] [] rfl (by omega)) (fun _ _ => (.cons_cons _ .slnil)) ?_
  rintro ⟨⟩ -
  refine Ap [11] [] (some [2]) #[true, true, true, true, true, true, true, true, true, true, true, true] (.cons_cons _ .slnil) 0 n0 trivial ?_
  refine CfgA.done (by kernel_rfl) ?_
  refine Cfg.ret rfl (rs := [.tmp 2]) rfl [.string ⟨l.toArray⟩] ⟨by kernel_rfl, trivial⟩ (fun w1 hp => ?_)
  exact ⟨(), trivial, rfl, _, hp.sub (List.nil_sublist _)⟩
end Go.Proofs.YtdjpokckamlccaaGreatDoor
namespace Go.Proofs.YtdjpokckamlccaaGreatDoor
open K
set_option linter.unusedVariables false
/-- A number in k bytes, the greatest first. -/
def be (n : Nat) : Nat → List UInt8
  | 0 => []
  | k + 1 => UInt8.ofNat (n / 256 ^ k) :: be n k
theorem be_len (n : Nat) : ∀ k, (be n k).length = k
  | 0 => rfl
  | k + 1 => by rw [be, List.length_cons, be_len n k]
def nrow (n k : Nat) : List UInt8 := (List.range 8).map fun i => if i < k then UInt8.ofNat (n / 256 ^ (7 - i)) else 0
theorem nrow_len (n k : Nat) : (nrow n k).length = 8 := by simp [nrow]
theorem nrow_end (n : Nat) : nrow n 8 = be n 8 := rfl
theorem nrow_set (n k : Nat) (hk : k < 8) : (nrow n k).set k (UInt8.ofNat (n / 256 ^ (7 - k))) = nrow n (k + 1) := by
  rcases k with _ | _ | _ | _ | _ | _ | _ | _ | k <;> first | rfl | omega
theorem u8_mod (m : Nat) : UInt8.ofNat (m % 256) = UInt8.ofNat m := by
  apply UInt8.toNat_inj.1
  simp
theorem nrow_step (n k : Nat) (hk : k < 8) {x : Int} (hx : x = ((n : Int) / ((2 ^ (56 - 8 * (k : Int)).toNat : Nat) : Int)) % 256) : (bv (nrow n k)).setIfInBounds k (.int .u8 x) = bv (nrow n (k + 1)) := by
  have e1 : ((n : Int) / ((2 ^ (56 - 8 * (k : Int)).toNat : Nat) : Int)) % 256 = ((n / 2 ^ (56 - 8 * (k : Int)).toNat % 256 : Nat) : Int) := by rw [Int.natCast_emod, Int.natCast_ediv]; rfl
  rw [hx, e1]
  have hlt : n / 2 ^ (56 - 8 * (k : Int)).toNat % 256 < 256 := Nat.mod_lt _ (by decide)
  rw [bv_set (by omega) (by omega), Int.toNat_natCast, u8_mod, show (56 - 8 * (k : Int)).toNat = 8 * (7 - k) by omega, Nat.pow_mul, show 2 ^ 8 = 256 from rfl, nrow_set n k hk]
/-- A number's text. -/
def beS (n k : Nat) : ByteArray := ⟨(be n k).toArray⟩
theorem beS_size (n k : Nat) : (beS n k).size = k := by simp [beS, ByteArray.size, be_len]
theorem beS_list (n k : Nat) : (beS n k).data.toList = be n k := rfl
theorem be_drop (n : Nat) : ∀ (j k : Nat), (be n (j + k)).drop j = be n k
  | 0, k => by rw [Nat.zero_add]; rfl
  | j + 1, k => by rw [show j + 1 + k = (j + k) + 1 by omega, be, List.drop_succ_cons, be_drop n j k]
theorem num_str {P : Program} {w0 w : World} {M : List Nat} {R O : List (Nat × Obj)} {n k b j c : Nat} {t : TypeId} (h : HP w0 M R O w) (ho : O[0]? = some (b, .cells (bv (nrow n k)) t (0, 0))) (hk : k = 8) (m : Nat) (hj : j + m = 8) :
    (Conv.bytesToString (.slice (some ⟨b, j, none⟩) m c)).run P w = .ok (.string (beS n m)) w := by
  subst hk
  refine bytes_str (be_len n m) fun i hi => ?_
  have e := be_drop n j m
  rw [hj] at e
  rw [← e, h.ocell 0 ho (bv_get (n := 8) (nrow_len n 8) (show j + i < 8 by omega)), nrow_end]
  simp [List.getD_eq_getElem?_getD, List.getElem?_drop]
def sat (ss : List ByteArray) (i : Nat) : ByteArray := ss.getD i ByteArray.empty
/-- Texts, one behind the other. -/
def cat (ss : List ByteArray) : List UInt8 := ss.flatMap fun s => s.data.toList
theorem take_sat {ss : List ByteArray} {i : Nat} (h : i < ss.length) : ss.take (i + 1) = ss.take i ++ [sat ss i] := by
  rw [List.take_succ_eq_append_getElem h]; simp [sat, List.getElem?_eq_getElem h]
theorem cat_app (a b : List ByteArray) : cat (a ++ b) = cat a ++ cat b := List.flatMap_append ..
theorem cat_one (s : ByteArray) : cat [s] = s.data.toList := by simp [cat]
theorem cat_succ {ss : List ByteArray} {i : Nat} (h : i < ss.length) : cat (ss.take (i + 1)) = cat (ss.take i) ++ (sat ss i).data.toList := by rw [take_sat h, cat_app, cat_one]
theorem cat_part {ss : List ByteArray} {i : Nat} (h : i < ss.length) : (cat (ss.take i)).length + (sat ss i).size ≤ (cat ss).length := by
  have h1 := cat_succ h
  have h2 : cat ss = cat (ss.take (i + 1)) ++ cat (ss.drop (i + 1)) := by rw [← cat_app, List.take_append_drop]
  rw [h2, h1, List.length_append, List.length_append, ba_len]; omega
/-- The text of bytes. -/
def tx (l : List UInt8) : ByteArray := ⟨l.toArray⟩
theorem tx_list (l : List UInt8) : (tx l).data.toList = l := rfl
theorem one_len (x : ByteArray) : [x].length ≤ maxLen := by simp [maxLen]
theorem inS_lit (bk : Nat) (t : TypeId) (fr : Nat × Nat) (ss : List ByteArray) : InS [(bk, .cells (ss.map Value.string).toArray t fr)] (some ⟨bk, 0, none⟩) ss.length (fun j => .string (sat ss j)) := by
  intro _
  refine ⟨bk, 0, _, t, fr, rfl, List.mem_singleton.2 rfl, fun j hj => ?_⟩
  rw [Nat.zero_add]
  simp [sat, List.getElem?_eq_getElem hj]
set_option maxRecDepth 100000 in
theorem wNumber1 (n : Nat) (w : World) (hn : n < 2 ^ 64) :
    Calls Tryz.prog 156 #[.int .u64 (n : Int), .int .i64 1] w fun e w' => e = .returned (.string (beS n 1)) ∧ Ext [] w w' := by
  refine enter (vs := [.int .u64 (n : Int), .int .i64 1]) [] [] [] Tryz.func156 rfl (by kernel_rfl) (HP.start w) ?_
  refine Rg [0, 1] [] n0 trivial ?_
  refine Cfg.begL rfl ?_
  refine Le  (Eff.alloc (z := (.agg (bv (List.replicate 8 0)))) rfl (by kernel_rfl)) ?_
  rintro b ⟨hb, nb⟩
  refine CfgL.done rfl ?_
  refine Rg [0, 1, 5, 7] [] n0 trivial ?_
  refine Cfg.loop rfl (ι := Nat) (fun (k : Nat) => [(7, [], .int .i64 (k : Int)), (5, [], .pointer (some ⟨b, 0, none⟩)), (0, [], .int .u64 (n : Int)), (1, [], .int .i64 1)]) (fun (k : Nat) => [(b, .cells (bv (nrow n k)) 209 (0, 0))]) (fun (k : Nat) => (k ≤ 8)) (fun (k : Nat) => 8 - k) 0 ?_ (Conv.mk (by kernel_rfl)) (List.Sublist.refl _) ?_
  · exact Nat.zero_le _
  · rintro k hk
    refine Rg [0, 1, 5, 7, 8] [] n0 trivial ?_
    refine Cfg.cond rfl (b := (decide ((k : Int) < (8 : Int)))) (by kernel_rfl) (fun c1r => ?_) (fun c1r => ?_)
    · have c1 : ((k : Int) < (8 : Int)) := (of_decide_eq_true c1r)
      refine Rg [0, 1, 5, 6, 7] [] n0 trivial ?_
      refine Cfg.begL rfl ?_
      refine Lp 8 [] (some [0, 1, 5, 7, 16, 17]) (fun _ => [((-9223372036854775808 : Int) ≤ (8 * (k : Int)) ∧ (8 * (k : Int)) ≤ 9223372036854775807), ((-9223372036854775808 : Int) ≤ (56 - (8 * (k : Int))) ∧ (56 - (8 * (k : Int))) ≤ 9223372036854775807), (0 ≤ (56 - (8 * (k : Int))) ∧ ((56 - (8 * (k : Int)))).toNat ≤ 64), (0 ≤ (k : Int) ∧ (k : Int) < (8 : Int))]) ⟨(by omega), (by omega), (by omega), (by omega), trivial⟩ ?_
      refine Le  (Eff.store1 (b := b) (off := k) (v := .int .u8 (((n : Int) / ((2 ^ ((56 - (8 * (k : Int)))).toNat : Nat) : Int)) % 256)) rfl (by kernel_rfl) (by kernel_rfl) rfl (by kernel_rfl) 0 (cs := (bv (nrow n k))) (e := 209) (by kernel_rfl) (by rw [bv_size, nrow_len]; omega)) ?_
      rintro ⟨⟩ -
      refine CfgL.done rfl ?_
      refine Cg (Γ' := [(7, [], .int .i64 (k : Int)), (5, [], .pointer (some ⟨b, 0, none⟩)), (0, [], .int .u64 (n : Int)), (1, [], .int .i64 1)]) ?_
      refine Rg [0, 1, 5, 7] [] (fun _ => [((-9223372036854775808 : Int) ≤ ((k : Int) + 1) ∧ ((k : Int) + 1) ≤ 9223372036854775807)]) ⟨(by omega), trivial⟩ ?_
      refine Cfg.setO (O' := [(b, .cells (bv (nrow n (k + 1))) 209 (0, 0))]) (congrArg (fun (xq : Array Value) => ([(b, .cells xq 209 (0, 0))] : List (Nat × Obj))) (nrow_step n k (by omega) rfl)) ?_
      refine Cfg.again rfl (k + 1) (show k + 1 ≤ 8 by omega) (by omega) (Conv.mk (by kernel_rfl)) (.cons_cons _ .slnil)
    · have c1 : (¬ ((k : Int) < (8 : Int))) := (of_decide_eq_false c1r)
      refine Rg [4] [(0, false, none), (0, false, none), (0, false, none), (0, false, some (.string (beS n 1)))] (fun S => [((-9223372036854775808 : Int) ≤ (7 : Int) ∧ (7 : Int) ≤ 9223372036854775807), (0 ≤ (7 : Int)), (7 ≤ 8 ∧ 8 ≤ 8), (∀ w1, S w1 → (Conv.bytesToString (.slice (some ⟨b, (if 8 = 7 then 0 else 7), none⟩) (8 - 7) (8 - 7))).run Tryz.prog w1 = .ok (.string (beS n 1)) w1)]) ⟨(by omega), (by omega), (by omega), (fun w1 h => num_str h rfl (by omega) 1 rfl), trivial⟩ ?_
      refine Cfg.ret rfl (rs := [.tmp 4]) rfl [.string (beS n 1)] ⟨by kernel_rfl, trivial⟩ (fun w1 hp => ?_)
      exact ⟨rfl, hp.ext⟩
set_option maxRecDepth 100000 in
theorem wNumber4 (n : Nat) (w : World) (hn : n < 2 ^ 64) :
    Calls Tryz.prog 156 #[.int .u64 (n : Int), .int .i64 4] w fun e w' => e = .returned (.string (beS n 4)) ∧ Ext [] w w' := by
  refine enter (vs := [.int .u64 (n : Int), .int .i64 4]) [] [] [] Tryz.func156 rfl (by kernel_rfl) (HP.start w) ?_
  refine Rg [0, 1] [] n0 trivial ?_
  refine Cfg.begL rfl ?_
  refine Le  (Eff.alloc (z := (.agg (bv (List.replicate 8 0)))) rfl (by kernel_rfl)) ?_
  rintro b ⟨hb, nb⟩
  refine CfgL.done rfl ?_
  refine Rg [0, 1, 5, 7] [] n0 trivial ?_
  refine Cfg.loop rfl (ι := Nat) (fun (k : Nat) => [(7, [], .int .i64 (k : Int)), (5, [], .pointer (some ⟨b, 0, none⟩)), (0, [], .int .u64 (n : Int)), (1, [], .int .i64 4)]) (fun (k : Nat) => [(b, .cells (bv (nrow n k)) 209 (0, 0))]) (fun (k : Nat) => (k ≤ 8)) (fun (k : Nat) => 8 - k) 0 ?_ (Conv.mk (by kernel_rfl)) (List.Sublist.refl _) ?_
  · exact Nat.zero_le _
  · rintro k hk
    refine Rg [0, 1, 5, 7, 8] [] n0 trivial ?_
    refine Cfg.cond rfl (b := (decide ((k : Int) < (8 : Int)))) (by kernel_rfl) (fun c1r => ?_) (fun c1r => ?_)
    · have c1 : ((k : Int) < (8 : Int)) := (of_decide_eq_true c1r)
      refine Rg [0, 1, 5, 6, 7] [] n0 trivial ?_
      refine Cfg.begL rfl ?_
      refine Lp 8 [] (some [0, 1, 5, 7, 16, 17]) (fun _ => [((-9223372036854775808 : Int) ≤ (8 * (k : Int)) ∧ (8 * (k : Int)) ≤ 9223372036854775807), ((-9223372036854775808 : Int) ≤ (56 - (8 * (k : Int))) ∧ (56 - (8 * (k : Int))) ≤ 9223372036854775807), (0 ≤ (56 - (8 * (k : Int))) ∧ ((56 - (8 * (k : Int)))).toNat ≤ 64), (0 ≤ (k : Int) ∧ (k : Int) < (8 : Int))]) ⟨(by omega), (by omega), (by omega), (by omega), trivial⟩ ?_
      refine Le  (Eff.store1 (b := b) (off := k) (v := .int .u8 (((n : Int) / ((2 ^ ((56 - (8 * (k : Int)))).toNat : Nat) : Int)) % 256)) rfl (by kernel_rfl) (by kernel_rfl) rfl (by kernel_rfl) 0 (cs := (bv (nrow n k))) (e := 209) (by kernel_rfl) (by rw [bv_size, nrow_len]; omega)) ?_
      rintro ⟨⟩ -
      refine CfgL.done rfl ?_
      refine Cg (Γ' := [(7, [], .int .i64 (k : Int)), (5, [], .pointer (some ⟨b, 0, none⟩)), (0, [], .int .u64 (n : Int)), (1, [], .int .i64 4)]) ?_
      refine Rg [0, 1, 5, 7] [] (fun _ => [((-9223372036854775808 : Int) ≤ ((k : Int) + 1) ∧ ((k : Int) + 1) ≤ 9223372036854775807)]) ⟨(by omega), trivial⟩ ?_
      refine Cfg.setO (O' := [(b, .cells (bv (nrow n (k + 1))) 209 (0, 0))]) (congrArg (fun (xq : Array Value) => ([(b, .cells xq 209 (0, 0))] : List (Nat × Obj))) (nrow_step n k (by omega) rfl)) ?_
      refine Cfg.again rfl (k + 1) (show k + 1 ≤ 8 by omega) (by omega) (Conv.mk (by kernel_rfl)) (.cons_cons _ .slnil)
    · have c1 : (¬ ((k : Int) < (8 : Int))) := (of_decide_eq_false c1r)
      refine Rg [4] [(0, false, none), (0, false, none), (0, false, none), (0, false, some (.string (beS n 4)))] (fun S => [((-9223372036854775808 : Int) ≤ (4 : Int) ∧ (4 : Int) ≤ 9223372036854775807), (0 ≤ (4 : Int)), (4 ≤ 8 ∧ 8 ≤ 8), (∀ w1, S w1 → (Conv.bytesToString (.slice (some ⟨b, (if 8 = 4 then 0 else 4), none⟩) (8 - 4) (8 - 4))).run Tryz.prog w1 = .ok (.string (beS n 4)) w1)]) ⟨(by omega), (by omega), (by omega), (fun w1 h => num_str h rfl (by omega) 4 rfl), trivial⟩ ?_
      refine Cfg.ret rfl (rs := [.tmp 4]) rfl [.string (beS n 4)] ⟨by kernel_rfl, trivial⟩ (fun w1 hp => ?_)
      exact ⟨rfl, hp.ext⟩
set_option maxRecDepth 100000 in
theorem wWith (s : ByteArray) (la : Option Addr) (cap : Nat) (ss : List ByteArray) (Rl : List (Nat × Obj)) (w : World) (hI : InS Rl la ss.length (fun j => .string (sat ss j))) (hR : Has w Rl) (hn : ss.length ≤ maxLen) (hr : s.size + (cat ss).length ≤ 140737488355328) :
    Calls Tryz.prog 155 #[.agg #[.string s], .slice la ss.length cap] w fun e w' => e = .returned (.agg #[.string (tx (s.data.toList ++ cat ss))]) ∧ Ext [] w w' := by
  unfold maxLen at hn
  refine enter (vs := [.agg #[.string s], .slice la ss.length cap]) [] Rl [] Tryz.func155 rfl (by kernel_rfl) (HP.ofHas hR) ?_
  refine Cfg.begL rfl ?_
  refine Le  (Eff.box (v := .agg #[.string s]) rfl (by kernel_rfl)) ?_
  rintro o ⟨ho, no⟩
  refine Le  (Eff.alloc (z := (.agg #[.string ByteArray.empty])) rfl (by kernel_rfl)) ?_
  rintro rs ⟨hrs, nrs⟩
  refine CfgL.done rfl ?_
  refine Cg (Γ' := [(4, [], .pointer (some ⟨rs, 0, none⟩)), (2, [], .pointer (some ⟨o, 0, none⟩)), (1, [], .slice la ss.length cap)]) ?_
  refine Cfg.begL rfl ?_
  refine Le  (Eff.allocB 5 [(rs, .cells #[.string ByteArray.empty] 169 (0, 0)), (o, .cells #[.string s] 169 (0, 0))] [] rfl rfl (by kernel_rfl)) ?_
  rintro b ⟨hb, nb⟩
  refine CfgL.done rfl ?_
  refine Cfg.begL rfl ?_
  refine Lp 2 [(0, false, none), (0, false, some (.string s))] (some [1, 4, 5, 9]) (fun S => [(∀ w1, S w1 → w1.cell? ⟨o, 0, none⟩ = some (.string s))]) ⟨(fun w1 h => h.ocell 1 rfl rfl), trivial⟩ ?_
  refine Le  (Eff.callH (vs := [.pointer (some ⟨b, 0, none⟩), .string s]) (fun _ => (.tuple #[.int .i64 (s.size : Int), .nilIface] : Value)) (bl 198 5 b ([]) bd0) (fun B1 => bl 198 5 b (([]) ++ s.data.toList) B1) (fun B1 => BdOk b (([]) ++ s.data.toList) B1) [(rs, .cells #[.string ByteArray.empty] 169 (0, 0)), (o, .cells #[.string s] 169 (0, 0))] [] (by rfl) rfl Tryz.func162 rfl rfl (by kernel_rfl) (fun w1 h hh hd => bWriteString b ([]) bd0 s w1 (bd0_ok b) hh hd (by simp only [List.length_nil]; omega))) ?_
  rintro B1 kB1
  refine CfgL.done rfl ?_
  refine Cg (Γ' := [(5, [], .pointer (some ⟨b, 0, none⟩)), (4, [], .pointer (some ⟨rs, 0, none⟩)), (1, [], .slice la ss.length cap)]) ?_
  refine Rg [4, 5, 11, 12, 13] [] n0 trivial ?_
  refine Cfg.setO (O' := ([(rs, .cells #[.string ByteArray.empty] 169 (0, 0)), (o, .cells #[.string s] 169 (0, 0))] ++ (bl 198 5 b (s.data.toList ++ cat (ss.take 0)) B1 ++ []))) (congrArg (fun (xq : List UInt8) => (([(rs, .cells #[.string ByteArray.empty] 169 (0, 0)), (o, .cells #[.string s] 169 (0, 0))] ++ (bl 198 5 b xq B1 ++ [])) : List (Nat × Obj))) (by rw [List.take_zero]; simp [cat])) ?_
  refine Cfg.loop rfl (ι := Nat × Bd) (fun (xz : Nat × Bd) => match xz with | (i, B) => [(13, [], .int .i64 (i : Int)), (12, [], .int .i64 (ss.length : Int)), (11, [], .slice la ss.length cap), (5, [], .pointer (some ⟨b, 0, none⟩)), (4, [], .pointer (some ⟨rs, 0, none⟩))]) (fun (xz : Nat × Bd) => match xz with | (i, B) => ([(rs, .cells #[.string ByteArray.empty] 169 (0, 0)), (o, .cells #[.string s] 169 (0, 0))] ++ (bl 198 5 b (s.data.toList ++ cat (ss.take i)) B ++ []))) (fun (xz : Nat × Bd) => match xz with | (i, B) => (i ≤ ss.length) ∧ (BdOk b (s.data.toList ++ cat (ss.take i)) B)) (fun (xz : Nat × Bd) => match xz with | (i, B) => ss.length - i) (0, B1) ?_ (Conv.mk (by kernel_rfl)) (List.Sublist.refl _) ?_
  · exact ⟨Nat.zero_le _, by rw [List.take_zero, show s.data.toList ++ cat [] = [] ++ s.data.toList by simp [cat]]; exact kB1⟩
  · rintro ⟨i, B⟩ ⟨hi, hB⟩
    refine Rg [4, 5, 11, 12, 13, 14] [] n0 trivial ?_
    refine Cfg.cond rfl (b := (decide ((i : Int) < (ss.length : Int)))) (by kernel_rfl) (fun c1r => ?_) (fun c1r => ?_)
    · have c1 : ((i : Int) < (ss.length : Int)) := (of_decide_eq_true c1r)
      obtain ⟨sb, off, cs, te, fre, rfl, hmem, hcs⟩ := hI (by omega)
      refine Conv.cfg (Γ' := [(14, [], .bool (decide ((i : Int) < (ss.length : Int)))), (13, [], .int .i64 (i : Int)), (12, [], .int .i64 (ss.length : Int)), (11, [], .slice (some ⟨sb, off, none⟩) ss.length cap), (5, [], .pointer (some ⟨b, 0, none⟩)), (4, [], .pointer (some ⟨rs, 0, none⟩))]) (Conv.mk (by kernel_rfl)) ?_
      refine Rg [4, 5, 7, 11, 12, 13] [(0, false, none), (0, false, some (.string (sat ss i)))] (fun S => [(0 ≤ (i : Int) ∧ (i : Int) < (ss.length : Int)), (∀ w1, S w1 → w1.cell? ⟨sb, (addO off i), none⟩ = some (.string (sat ss i)))]) ⟨(by omega), (fun w1 h => by rw [addO_eq]; exact (cell_cells (h.ro _ hmem)).trans (hcs i (by omega))), trivial⟩ ?_
      refine Cfg.begL rfl ?_
      refine Lp 1 [] (some [4, 5, 11, 12, 13, 17]) n0 trivial ?_
      refine Le  (Eff.callH (vs := [.pointer (some ⟨b, 0, none⟩), .string (sat ss i)]) (fun _ => (.tuple #[.int .i64 ((sat ss i).size : Int), .nilIface] : Value)) (bl 198 5 b (s.data.toList ++ cat (ss.take i)) B) (fun B1 => bl 198 5 b ((s.data.toList ++ cat (ss.take i)) ++ (sat ss i).data.toList) B1) (fun B1 => BdOk b ((s.data.toList ++ cat (ss.take i)) ++ (sat ss i).data.toList) B1) [(rs, .cells #[.string ByteArray.empty] 169 (0, 0)), (o, .cells #[.string s] 169 (0, 0))] [] (by rfl) rfl Tryz.func162 rfl rfl (by kernel_rfl) (fun w1 h hh hd => bWriteString b (s.data.toList ++ cat (ss.take i)) B (sat ss i) w1 hB hh hd (by have := cat_part (ss := ss) (i := i) (by omega); rw [List.length_append, ba_len]; omega))) ?_
      rintro B2 kB2
      refine CfgL.done rfl ?_
      refine Cg (Γ' := [(13, [], .int .i64 (i : Int)), (12, [], .int .i64 (ss.length : Int)), (11, [], .slice (some ⟨sb, off, none⟩) ss.length cap), (5, [], .pointer (some ⟨b, 0, none⟩)), (4, [], .pointer (some ⟨rs, 0, none⟩))]) ?_
      refine Rg [4, 5, 11, 12, 13] [] (fun _ => [((-9223372036854775808 : Int) ≤ ((i : Int) + 1) ∧ ((i : Int) + 1) ≤ 9223372036854775807)]) ⟨(by omega), trivial⟩ ?_
      have hcs2 : (s.data.toList ++ cat (ss.take i)) ++ (sat ss i).data.toList = (s.data.toList ++ cat (ss.take (i + 1))) := by rw [cat_succ (by omega), List.append_assoc]
      refine Cfg.setO (O' := ([(rs, .cells #[.string ByteArray.empty] 169 (0, 0)), (o, .cells #[.string s] 169 (0, 0))] ++ (bl 198 5 b (s.data.toList ++ cat (ss.take (i + 1))) B2 ++ []))) (congrArg (fun (xq : List UInt8) => (([(rs, .cells #[.string ByteArray.empty] 169 (0, 0)), (o, .cells #[.string s] 169 (0, 0))] ++ (bl 198 5 b xq B2 ++ [])) : List (Nat × Obj))) (hcs2)) ?_
      refine Cfg.again rfl (i + 1, B2) ⟨by omega, hcs2 ▸ kB2⟩ (by show ss.length - (i + 1) < ss.length - i; omega) (Conv.mk (by kernel_rfl)) (.cons_cons _ (.cons_cons _ (List.Sublist.refl _)))
    · have c1 : (¬ ((i : Int) < (ss.length : Int))) := (of_decide_eq_false c1r)
      obtain rfl : i = ss.length := by omega
      refine Cfg.setO (O' := ([(rs, .cells #[.string ByteArray.empty] 169 (0, 0)), (o, .cells #[.string s] 169 (0, 0))] ++ (bl 198 5 b (s.data.toList ++ cat ss) B ++ []))) (congrArg (fun (xq : List UInt8) => (([(rs, .cells #[.string ByteArray.empty] 169 (0, 0)), (o, .cells #[.string s] 169 (0, 0))] ++ (bl 198 5 b xq B ++ [])) : List (Nat × Obj))) (by rw [List.take_length])) ?_
      rw [List.take_length] at hB
      refine Conv.cfg (Γ' := [(12, [], .int .i64 (ss.length : Int)), (11, [], .slice la ss.length cap), (5, [], .pointer (some ⟨b, 0, none⟩)), (4, [], .pointer (some ⟨rs, 0, none⟩))]) (Conv.mk (by kernel_rfl)) ?_
      refine Cfg.begL rfl ?_
      refine Le  (Eff.callH (vs := [.pointer (some ⟨b, 0, none⟩)]) (fun _ : Unit => (.string (tx (s.data.toList ++ cat ss)) : Value)) (bl 198 5 b (s.data.toList ++ cat ss) B) (fun _ => []) (fun _ => True) [(rs, .cells #[.string ByteArray.empty] 169 (0, 0)), (o, .cells #[.string s] 169 (0, 0))] [] (by rfl) rfl Tryz.func109 rfl rfl (by kernel_rfl) (fun w1 h hh hd => bString b (s.data.toList ++ cat ss) B w1 hB hh hd (by rw [List.length_append, ba_len]; omega))) ?_
      rintro ⟨⟩ -
      refine Lp 1 [(0, false, some (.agg #[.string (tx (s.data.toList ++ cat ss))]))] (some [4, 21]) (fun S => [(∀ w1, S w1 → (Instr.build 169 #[(0, .string (tx (s.data.toList ++ cat ss)))]).run Tryz.prog w1 = .ok (.agg #[.string (tx (s.data.toList ++ cat ss))]) w1)]) ⟨(fun _ _ => by kernel_rfl), trivial⟩ ?_
      refine Le  (Eff.storeN (b := rs) (off := 0) (vs := #[.string (tx (s.data.toList ++ cat ss))]) (n := 1) rfl (by kernel_rfl) (by kernel_rfl) (by kernel_rfl) rfl (by simp [one]) 0 (cs := #[.string ByteArray.empty]) (e := 169) (by kernel_rfl) (by simp)) ?_
      rintro ⟨⟩ -
      refine CfgL.setO (O' := [(rs, .cells #[.string (tx (s.data.toList ++ cat ss))] 169 (0, 0)), (o, .cells #[.string s] 169 (0, 0))]) (congrArg (fun (xq : Array Value) => ([(rs, .cells xq 169 (0, 0)), (o, .cells #[.string s] 169 (0, 0))] : List (Nat × Obj))) (rfl)) ?_
      refine CfgL.done rfl ?_
      refine Cg (Γ' := [(4, [], .pointer (some ⟨rs, 0, none⟩))]) ?_
      refine Cfg.ret rfl (rs := [.cell 4 169]) rfl [.agg #[.string (tx (s.data.toList ++ cat ss))]] ⟨⟨_, by kernel_rfl, (fun w1 h => h.oload 0 rfl Tryz.underlying169 rfl (n := 1) (by kernel_rfl) rfl)⟩, trivial⟩ (fun w1 hp => ?_)
      exact ⟨rfl, hp.ext⟩
end Go.Proofs.YtdjpokckamlccaaGreatDoor
namespace Go.Proofs.YtdjpokckamlccaaGreatDoor
open K
set_option linter.unusedVariables false
/-- Things as bytes, one behind the other. -/
def flat {α : Type} (f : α → List UInt8) (l : List α) : List UInt8 := l.flatMap f
theorem flat_app {α : Type} (f : α → List UInt8) (a b : List α) : flat f (a ++ b) = flat f a ++ flat f b := List.flatMap_append ..
theorem flat_succ {α : Type} {f : α → List UInt8} {l : List α} {i : Nat} (d : α) (h : i < l.length) : flat f (l.take (i + 1)) = flat f (l.take i) ++ f (l.getD i d) := by
  rw [List.take_succ_eq_append_getElem h, flat_app]
  simp [flat, List.getElem?_eq_getElem h]
theorem flat_part {α : Type} {f : α → List UInt8} {l : List α} {i : Nat} (d : α) (h : i < l.length) : (flat f (l.take i)).length + (f (l.getD i d)).length ≤ (flat f l).length := by
  have h1 := flat_succ (f := f) d h
  have h2 : flat f l = flat f (l.take (i + 1)) ++ flat f (l.drop (i + 1)) := by rw [← flat_app, List.take_append_drop]
  rw [h2, h1, List.length_append, List.length_append]; omega
theorem cat_tx (l : List UInt8) : cat [tx l] = l := by rw [cat_one, tx_list]
def four (n : Nat) : List UInt8 := be n 4
set_option maxRecDepth 100000 in
theorem wByte (s : ByteArray) (n : Nat) (w : World) (hn : n < 256) (hr : s.size + 1 ≤ 140737488355328) :
    Calls Tryz.prog 85 #[.agg #[.string s], .int .u8 (n : Int)] w fun e w' => e = .returned (.agg #[.string (tx (s.data.toList ++ be n 1))]) ∧ Ext [] w w' := by
  refine enter (vs := [.agg #[.string s], .int .u8 (n : Int)]) [] [] [] Tryz.func85 rfl (by kernel_rfl) (HP.start w) ?_
  refine Cfg.begL rfl ?_
  refine Le  (Eff.box (v := .agg #[.string s]) rfl (by kernel_rfl)) ?_
  rintro o ⟨ho, no⟩
  refine Le  (Eff.alloc (z := (.agg #[.string ByteArray.empty])) rfl (by kernel_rfl)) ?_
  rintro rs ⟨hrs, nrs⟩
  refine CfgL.done rfl ?_
  refine Cg (Γ' := [(4, [], .pointer (some ⟨rs, 0, none⟩)), (2, [], .pointer (some ⟨o, 0, none⟩)), (1, [], .int .u8 (n : Int))]) ?_
  refine Cfg.begA rfl (by kernel_rfl) [(o, .cells #[.string s] 169 (0, 0))] ?_
  refine Ap [0, 1, 2] [(0, false, some (.agg #[.string s]))] (some [4, 5, 7]) #[true, true, true, false, false, false, false] (.cons _ (.cons_cons _ .slnil)) 4 (fun S => [(∀ w1, S w1 → (loadVar 169 ⟨o, 0, none⟩).run Tryz.prog w1 = .ok (.agg #[.string s]) w1), ((0 : Int) ≤ (n : Int) ∧ (n : Int) ≤ 18446744073709551615)]) ⟨(fun w1 h => h.oload 0 rfl Tryz.underlying169 rfl (n := 1) (by kernel_rfl) rfl), (by omega), trivial⟩ ?_
  refine Ae 3 rfl 3  (Eff.callA (vs := [.int .u64 (n : Int), .int .i64 1]) (.string (beS n 1)) rfl Tryz.func156 rfl rfl (by kernel_rfl) (fun w1 _ => wNumber1 n w1 (by omega))) (fun _ _ => (.cons _ (.cons_cons _ .slnil))) ?_
  rintro ⟨⟩ -
  refine Ae 4 rfl 2  (Eff.buildSlice (e := 9) (cells := #[.string (beS n 1)]) (parts := #[(0, .string (beS n 1))]) rfl (by kernel_rfl) (fun _ => by kernel_rfl)) (fun _ _ => (.cons _ (.cons _ (.cons_cons _ .slnil)))) ?_
  rintro x3 ⟨hx3, nx3⟩
  refine Ae 5 rfl 1  (Eff.callA (vs := [.agg #[.string s], .slice (some ⟨x3, 0, none⟩) 1 1]) (.agg #[.string (tx (s.data.toList ++ cat [(beS n 1)]))]) rfl Tryz.func155 rfl rfl (by kernel_rfl) (fun w1 h => wWith s (some ⟨x3, 0, none⟩) 1 [(beS n 1)] [(x3, .cells (List.map Value.string [(beS n 1)]).toArray 9 (0, 0))] w1 (inS_lit x3 9 (0, 0) [(beS n 1)]) (h.has (fun e he => List.mem_of_getElem? (i := 0) (by rw [List.mem_singleton.1 he]; rfl))) (one_len _) (by rw [cat_one, beS_list, be_len]; omega))) (fun _ _ => (.cons _ (.cons _ (.cons_cons _ .slnil)))) ?_
  rintro ⟨⟩ -
  refine Ae 6 rfl 0  (Eff.storeN (b := rs) (off := 0) (vs := #[.string (tx (s.data.toList ++ cat [(beS n 1)]))]) (n := 1) rfl (by kernel_rfl) (by kernel_rfl) (by kernel_rfl) rfl (by simp [one]) 1 (cs := #[.string ByteArray.empty]) (e := 169) (by kernel_rfl) (by simp)) (fun _ _ => (.cons _ (.cons _ (.cons_cons _ .slnil)))) ?_
  rintro ⟨⟩ -
  refine CfgA.setO (O' := [(x3, .cells #[.string (beS n 1)] 9 (0, 0)), (rs, .cells #[.string (tx (s.data.toList ++ cat [(beS n 1)]))] 169 (0, 0)), (o, .cells #[.string s] 169 (0, 0))]) (congrArg (fun (xq : Array Value) => ([(x3, .cells #[.string (beS n 1)] 9 (0, 0)), (rs, .cells xq 169 (0, 0)), (o, .cells #[.string s] 169 (0, 0))] : List (Nat × Obj))) (rfl)) ?_
  refine CfgA.done (by kernel_rfl) ?_
  refine Cg (Γ' := [(4, [], .pointer (some ⟨rs, 0, none⟩))]) ?_
  refine Cfg.ret rfl (rs := [.cell 4 169]) rfl [.agg #[.string (tx (s.data.toList ++ cat [(beS n 1)]))]] ⟨⟨_, by kernel_rfl, (fun w1 h => h.oload 1 rfl Tryz.underlying169 rfl (n := 1) (by kernel_rfl) rfl)⟩, trivial⟩ (fun w1 hp => ?_)
  exact ⟨by rw [cat_one, beS_list]; rfl, hp.ext⟩
set_option maxRecDepth 100000 in
theorem wFour (s : ByteArray) (la : Option Addr) (cap : Nat) (xs : List Nat) (Rl : List (Nat × Obj)) (w : World) (hI : InS Rl la xs.length (fun j => .int .u32 ((xs.getD j 0 : Nat) : Int))) (hR : Has w Rl) (hn : xs.length ≤ maxLen) (hr : s.size + (flat four xs).length ≤ 140737488355328) (hx : ∀ i, xs.getD i 0 < 4294967296) :
    Calls Tryz.prog 161 #[.agg #[.string s], .slice la xs.length cap] w fun e w' => e = .returned (.agg #[.string (tx (s.data.toList ++ flat four xs))]) ∧ Ext [] w w' := by
  unfold maxLen at hn
  refine enter (vs := [.agg #[.string s], .slice la xs.length cap]) [] Rl [] Tryz.func161 rfl (by kernel_rfl) (HP.ofHas hR) ?_
  refine Cfg.begL rfl ?_
  refine Le  (Eff.box (v := .agg #[.string s]) rfl (by kernel_rfl)) ?_
  rintro o ⟨ho, no⟩
  refine Le  (Eff.alloc (z := (.agg #[.string ByteArray.empty])) rfl (by kernel_rfl)) ?_
  rintro rs ⟨hrs, nrs⟩
  refine CfgL.done rfl ?_
  refine Cg (Γ' := [(4, [], .pointer (some ⟨rs, 0, none⟩)), (2, [], .pointer (some ⟨o, 0, none⟩)), (1, [], .slice la xs.length cap)]) ?_
  refine Cfg.begL rfl ?_
  refine Le  (Eff.allocB 5 [(rs, .cells #[.string ByteArray.empty] 169 (0, 0)), (o, .cells #[.string s] 169 (0, 0))] [] rfl rfl (by kernel_rfl)) ?_
  rintro b ⟨hb, nb⟩
  refine CfgL.done rfl ?_
  refine Rg [2, 4, 5, 8, 9, 10] [] n0 trivial ?_
  refine Cfg.setO (O' := ([(rs, .cells #[.string ByteArray.empty] 169 (0, 0)), (o, .cells #[.string s] 169 (0, 0))] ++ (bl 198 5 b (flat four (xs.take 0)) bd0 ++ []))) (congrArg (fun (xq : List UInt8) => (([(rs, .cells #[.string ByteArray.empty] 169 (0, 0)), (o, .cells #[.string s] 169 (0, 0))] ++ (bl 198 5 b xq bd0 ++ [])) : List (Nat × Obj))) (by rw [List.take_zero]; rfl)) ?_
  refine Cfg.loop rfl (ι := Nat × Bd) (fun (xz : Nat × Bd) => match xz with | (i, B) => [(10, [], .int .i64 (i : Int)), (9, [], .int .i64 (xs.length : Int)), (8, [], .slice la xs.length cap), (5, [], .pointer (some ⟨b, 0, none⟩)), (4, [], .pointer (some ⟨rs, 0, none⟩)), (2, [], .pointer (some ⟨o, 0, none⟩))]) (fun (xz : Nat × Bd) => match xz with | (i, B) => ([(rs, .cells #[.string ByteArray.empty] 169 (0, 0)), (o, .cells #[.string s] 169 (0, 0))] ++ (bl 198 5 b (flat four (xs.take i)) B ++ []))) (fun (xz : Nat × Bd) => match xz with | (i, B) => (i ≤ xs.length) ∧ (BdOk b (flat four (xs.take i)) B)) (fun (xz : Nat × Bd) => match xz with | (i, B) => xs.length - i) (0, bd0) ?_ (Conv.mk (by kernel_rfl)) (List.Sublist.refl _) ?_
  · exact ⟨Nat.zero_le _, by rw [List.take_zero]; exact (bd0_ok b)⟩
  · rintro ⟨i, B⟩ ⟨hi, hB⟩
    have hpart := fun (hlt : i < xs.length) => flat_part (f := four) 0 hlt
    refine Rg [2, 4, 5, 8, 9, 10, 11] [] n0 trivial ?_
    refine Cfg.cond rfl (b := (decide ((i : Int) < (xs.length : Int)))) (by kernel_rfl) (fun c1r => ?_) (fun c1r => ?_)
    · have c1 : ((i : Int) < (xs.length : Int)) := (of_decide_eq_true c1r)
      have hpt := hpart (by omega)
      obtain ⟨sb, off, cs, te, fre, rfl, hmem, hcs⟩ := hI (by omega)
      refine Conv.cfg (Γ' := [(11, [], .bool (decide ((i : Int) < (xs.length : Int)))), (10, [], .int .i64 (i : Int)), (9, [], .int .i64 (xs.length : Int)), (8, [], .slice (some ⟨sb, off, none⟩) xs.length cap), (5, [], .pointer (some ⟨b, 0, none⟩)), (4, [], .pointer (some ⟨rs, 0, none⟩)), (2, [], .pointer (some ⟨o, 0, none⟩))]) (Conv.mk (by kernel_rfl)) ?_
      refine Rg [2, 4, 5, 7, 8, 9, 10] [(0, false, none), (0, false, some (.int .u32 ((xs.getD i 0) : Int)))] (fun S => [(0 ≤ (i : Int) ∧ (i : Int) < (xs.length : Int)), (∀ w1, S w1 → w1.cell? ⟨sb, (addO off i), none⟩ = some (.int .u32 ((xs.getD i 0) : Int)))]) ⟨(by omega), (fun w1 h => by rw [addO_eq]; exact (cell_cells (h.ro _ hmem)).trans (hcs i (by omega))), trivial⟩ ?_
      refine Cfg.begL rfl ?_
      refine Lp 2 [] (some [2, 4, 5, 8, 9, 10, 15]) (fun _ => [((0 : Int) ≤ ((xs.getD i 0) : Int) ∧ ((xs.getD i 0) : Int) ≤ 18446744073709551615)]) ⟨(by have := hx i; omega), trivial⟩ ?_
      refine Le  (Eff.callA (vs := [.int .u64 ((xs.getD i 0) : Int), .int .i64 4]) (.string (beS ((xs.getD i 0)) 4)) rfl Tryz.func156 rfl rfl (by kernel_rfl) (fun w1 _ => wNumber4 ((xs.getD i 0)) w1 (by have := hx i; omega))) ?_
      rintro ⟨⟩ -
      refine Le  (Eff.callH (vs := [.pointer (some ⟨b, 0, none⟩), .string (beS ((xs.getD i 0)) 4)]) (fun _ => (.tuple #[.int .i64 ((beS ((xs.getD i 0)) 4).size : Int), .nilIface] : Value)) (bl 198 5 b (flat four (xs.take i)) B) (fun B1 => bl 198 5 b ((flat four (xs.take i)) ++ (beS ((xs.getD i 0)) 4).data.toList) B1) (fun B1 => BdOk b ((flat four (xs.take i)) ++ (beS ((xs.getD i 0)) 4).data.toList) B1) [(rs, .cells #[.string ByteArray.empty] 169 (0, 0)), (o, .cells #[.string s] 169 (0, 0))] [] (by rfl) rfl Tryz.func162 rfl rfl (by kernel_rfl) (fun w1 h hh hd => bWriteString b (flat four (xs.take i)) B (beS ((xs.getD i 0)) 4) w1 hB hh hd (by rw [beS_size]; have : (four (xs.getD i 0)).length = 4 := be_len _ _; omega))) ?_
      rintro B2 kB2
      refine CfgL.done rfl ?_
      refine Cg (Γ' := [(10, [], .int .i64 (i : Int)), (9, [], .int .i64 (xs.length : Int)), (8, [], .slice (some ⟨sb, off, none⟩) xs.length cap), (5, [], .pointer (some ⟨b, 0, none⟩)), (4, [], .pointer (some ⟨rs, 0, none⟩)), (2, [], .pointer (some ⟨o, 0, none⟩))]) ?_
      refine Rg [2, 4, 5, 8, 9, 10] [] (fun _ => [((-9223372036854775808 : Int) ≤ ((i : Int) + 1) ∧ ((i : Int) + 1) ≤ 9223372036854775807)]) ⟨(by omega), trivial⟩ ?_
      have hcs2 : ((flat four (xs.take i)) ++ (beS ((xs.getD i 0)) 4).data.toList) = (flat four (xs.take (i + 1))) := by rw [flat_succ 0 (by omega)]; rfl
      refine Cfg.setO (O' := ([(rs, .cells #[.string ByteArray.empty] 169 (0, 0)), (o, .cells #[.string s] 169 (0, 0))] ++ (bl 198 5 b (flat four (xs.take (i + 1))) B2 ++ []))) (congrArg (fun (xq : List UInt8) => (([(rs, .cells #[.string ByteArray.empty] 169 (0, 0)), (o, .cells #[.string s] 169 (0, 0))] ++ (bl 198 5 b xq B2 ++ [])) : List (Nat × Obj))) (hcs2)) ?_
      refine Cfg.again rfl (i + 1, B2) ⟨by omega, hcs2 ▸ kB2⟩ (by show xs.length - (i + 1) < xs.length - i; omega) (Conv.mk (by kernel_rfl)) (.cons_cons _ (.cons_cons _ (List.Sublist.refl _)))
    · have c1 : (¬ ((i : Int) < (xs.length : Int))) := (of_decide_eq_false c1r)
      obtain rfl : i = xs.length := by omega
      refine Cfg.setO (O' := ([(rs, .cells #[.string ByteArray.empty] 169 (0, 0)), (o, .cells #[.string s] 169 (0, 0))] ++ (bl 198 5 b (flat four xs) B ++ []))) (congrArg (fun (xq : List UInt8) => (([(rs, .cells #[.string ByteArray.empty] 169 (0, 0)), (o, .cells #[.string s] 169 (0, 0))] ++ (bl 198 5 b xq B ++ [])) : List (Nat × Obj))) (by rw [List.take_length])) ?_
      rw [List.take_length] at hB
      refine Conv.cfg (Γ' := [(9, [], .int .i64 (xs.length : Int)), (8, [], .slice la xs.length cap), (5, [], .pointer (some ⟨b, 0, none⟩)), (4, [], .pointer (some ⟨rs, 0, none⟩)), (2, [], .pointer (some ⟨o, 0, none⟩))]) (Conv.mk (by kernel_rfl)) ?_
      refine Cfg.begA rfl (by kernel_rfl) [(o, .cells #[.string s] 169 (0, 0))] ?_
      refine Ap [0] [(0, false, some (.agg #[.string s]))] (some [4, 5, 19]) #[true, false, false, false, false] (.cons _ (.cons_cons _ (List.nil_sublist _))) 4 (fun S => [(∀ w1, S w1 → (loadVar 169 ⟨o, 0, none⟩).run Tryz.prog w1 = .ok (.agg #[.string s]) w1)]) ⟨(fun w1 h => h.oload 0 rfl Tryz.underlying169 rfl (n := 1) (by kernel_rfl) rfl), trivial⟩ ?_
      refine Ae 1 rfl 3  (Eff.callH (vs := [.pointer (some ⟨b, 0, none⟩)]) (fun _ : Unit => (.string (tx (flat four xs)) : Value)) (bl 198 5 b (flat four xs) B) (fun _ => []) (fun _ => True) [(rs, .cells #[.string ByteArray.empty] 169 (0, 0)), (o, .cells #[.string s] 169 (0, 0))] [] (by rfl) rfl Tryz.func109 rfl rfl (by kernel_rfl) (fun w1 h hh hd => bString b (flat four xs) B w1 hB hh hd (by omega))) (fun _ _ => (.cons _ (.cons_cons _ .slnil))) ?_
      rintro ⟨⟩ -
      refine Ae 2 rfl 2  (Eff.buildSlice (e := 9) (cells := #[.string (tx (flat four xs))]) (parts := #[(0, .string (tx (flat four xs)))]) rfl (by kernel_rfl) (fun _ => by kernel_rfl)) (fun _ _ => (.cons _ (.cons _ (.cons_cons _ .slnil)))) ?_
      rintro x3 ⟨hx3, nx3⟩
      refine Ae 3 rfl 1  (Eff.callA (vs := [.agg #[.string s], .slice (some ⟨x3, 0, none⟩) 1 1]) (.agg #[.string (tx (s.data.toList ++ cat [(tx (flat four xs))]))]) rfl Tryz.func155 rfl rfl (by kernel_rfl) (fun w1 h => wWith s (some ⟨x3, 0, none⟩) 1 [(tx (flat four xs))] [(x3, .cells (List.map Value.string [(tx (flat four xs))]).toArray 9 (0, 0))] w1 (inS_lit x3 9 (0, 0) [(tx (flat four xs))]) (h.has (fun e he => List.mem_of_getElem? (i := 0) (by rw [List.mem_singleton.1 he]; rfl))) (one_len _) (by rw [cat_tx]; omega))) (fun _ _ => (.cons _ (.cons _ (.cons_cons _ .slnil)))) ?_
      rintro ⟨⟩ -
      refine Ae 4 rfl 0  (Eff.storeN (b := rs) (off := 0) (vs := #[.string (tx (s.data.toList ++ cat [(tx (flat four xs))]))]) (n := 1) rfl (by kernel_rfl) (by kernel_rfl) (by kernel_rfl) rfl (by simp [one]) 1 (cs := #[.string ByteArray.empty]) (e := 169) (by kernel_rfl) (by simp)) (fun _ _ => (.cons _ (.cons _ (.cons_cons _ .slnil)))) ?_
      rintro ⟨⟩ -
      refine CfgA.setO (O' := [(x3, .cells #[.string (tx (flat four xs))] 9 (0, 0)), (rs, .cells #[.string (tx (s.data.toList ++ cat [(tx (flat four xs))]))] 169 (0, 0)), (o, .cells #[.string s] 169 (0, 0))]) (congrArg (fun (xq : Array Value) => ([(x3, .cells #[.string (tx (flat four xs))] 9 (0, 0)), (rs, .cells xq 169 (0, 0)), (o, .cells #[.string s] 169 (0, 0))] : List (Nat × Obj))) (rfl)) ?_
      refine CfgA.done (by kernel_rfl) ?_
      refine Cg (Γ' := [(4, [], .pointer (some ⟨rs, 0, none⟩))]) ?_
      refine Cfg.ret rfl (rs := [.cell 4 169]) rfl [.agg #[.string (tx (s.data.toList ++ cat [(tx (flat four xs))]))]] ⟨⟨_, by kernel_rfl, (fun w1 h => h.oload 1 rfl Tryz.underlying169 rfl (n := 1) (by kernel_rfl) rfl)⟩, trivial⟩ (fun w1 hp => ?_)
      exact ⟨by rw [cat_tx]; rfl, hp.ext⟩
set_option maxRecDepth 100000 in
theorem wRaw (s : ByteArray) (la : Option Addr) (cap : Nat) (ss : List ByteArray) (Rl : List (Nat × Obj)) (w : World) (hI : InS Rl la ss.length (fun j => .string (sat ss j))) (hR : Has w Rl) (hn : ss.length ≤ maxLen) (hr : s.size + (cat ss).length ≤ 140737488355328) :
    Calls Tryz.prog 173 #[.agg #[.string s], .slice la ss.length cap] w fun e w' => e = .returned (.agg #[.string (tx (s.data.toList ++ cat ss))]) ∧ Ext [] w w' := by
  refine enter (vs := [.agg #[.string s], .slice la ss.length cap]) [] Rl [] Tryz.func173 rfl (by kernel_rfl) (HP.ofHas hR) ?_
  refine Cfg.begL rfl ?_
  refine Le  (Eff.box (v := .agg #[.string s]) rfl (by kernel_rfl)) ?_
  rintro o ⟨ho, no⟩
  refine Le  (Eff.alloc (z := (.agg #[.string ByteArray.empty])) rfl (by kernel_rfl)) ?_
  rintro rs ⟨hrs, nrs⟩
  refine CfgL.done rfl ?_
  refine Cg (Γ' := [(4, [], .pointer (some ⟨rs, 0, none⟩)), (2, [], .pointer (some ⟨o, 0, none⟩)), (1, [], .slice la ss.length cap)]) ?_
  refine Cfg.begL rfl ?_
  refine Lp 2 [(0, false, some (.agg #[.string s]))] (some [4, 5, 6]) (fun S => [(∀ w1, S w1 → (loadVar 169 ⟨o, 0, none⟩).run Tryz.prog w1 = .ok (.agg #[.string s]) w1)]) ⟨(fun w1 h => h.oload 1 rfl Tryz.underlying169 rfl (n := 1) (by kernel_rfl) rfl), trivial⟩ ?_
  refine Le  (Eff.callA (vs := [.agg #[.string s], .slice la ss.length cap]) (.agg #[.string (tx (s.data.toList ++ cat ss))]) rfl Tryz.func155 rfl rfl (by kernel_rfl) (fun w1 h => wWith s la cap ss Rl w1 hI (h.hasR (fun _ he => he)) hn hr)) ?_
  rintro ⟨⟩ -
  refine Le  (Eff.storeN (b := rs) (off := 0) (vs := #[.string (tx (s.data.toList ++ cat ss))]) (n := 1) rfl (by kernel_rfl) (by kernel_rfl) (by kernel_rfl) rfl (by simp [one]) 0 (cs := #[.string ByteArray.empty]) (e := 169) (by kernel_rfl) (by simp)) ?_
  rintro ⟨⟩ -
  refine CfgL.setO (O' := [(rs, .cells #[.string (tx (s.data.toList ++ cat ss))] 169 (0, 0)), (o, .cells #[.string s] 169 (0, 0))]) (congrArg (fun (xq : Array Value) => ([(rs, .cells xq 169 (0, 0)), (o, .cells #[.string s] 169 (0, 0))] : List (Nat × Obj))) (rfl)) ?_
  refine CfgL.done rfl ?_
  refine Cg (Γ' := [(4, [], .pointer (some ⟨rs, 0, none⟩))]) ?_
  refine Cfg.ret rfl (rs := [.cell 4 169]) rfl [.agg #[.string (tx (s.data.toList ++ cat ss))]] ⟨⟨_, by kernel_rfl, (fun w1 h => h.oload 0 rfl Tryz.underlying169 rfl (n := 1) (by kernel_rfl) rfl)⟩, trivial⟩ (fun w1 hp => ?_)
  exact ⟨rfl, hp.ext⟩
end Go.Proofs.YtdjpokckamlccaaGreatDoor
