/- A call that changes blocks of the caller's own; a strings.Builder of one's own. -/
import Derived.Test.YtoopekjbikcebaaDoorK12
import Derived.Lib.AppendStr
import Derived.Lib.UnsafeStr
import Derived.Lib.Builder
namespace Go.Proofs.YtoopekjbikcebaaDoor
namespace K

section
variable {w0 w w' : World} {M : List Nat} {R O : List (Nat × Obj)}

theorem HP.ofL {A : List (Nat × Obj)} (hA : Has w A) (hd : (A.map (·.1)).Nodup) (hR : Has w R) (hn : ∀ e ∈ R, e.1 ∉ A.map (·.1)) : HP w (A.map (·.1)) R A w :=
  ⟨Ext.refl _ _, hR, fun e he => ⟨lt_of_get (hR e he), hn e he⟩, hA, hd, fun e he => .inr (List.mem_map.2 ⟨e, he, rfl⟩)⟩

theorem nodup_left {A T : List (Nat × Obj)} (h : ((A ++ T).map (·.1)).Nodup) : (A.map (·.1)).Nodup := by
  rw [List.map_append] at h; exact (List.nodup_append.1 h).1

/-- What a call makes of the blocks A. -/
theorem HP.swap {A A' T R' : List (Nat × Obj)} (h : HP w0 M R (A ++ T) w) (h' : HP w (A.map (·.1)) R' A' w') : HP w0 M R (A' ++ T) w' := by
  have hM0 : ∀ k ∈ A.map (·.1), k < w0.heap.size → k ∈ M := by
    intro k hk hlt
    obtain ⟨e, he, rfl⟩ := List.mem_map.1 hk
    rcases h.mine e (List.mem_append_left _ he) with h1 | h1
    · omega
    · exact h1
  have hnd := h.dist
  rw [List.map_append] at hnd
  have hdis : ∀ e ∈ T, e.1 ∉ A.map (·.1) := fun e he hm => (List.nodup_append.1 hnd).2.2 _ hm _ (List.mem_map.2 ⟨e, he, rfl⟩) rfl
  have hT : ∀ e ∈ T, w.heap[e.1]? = some e.2 := fun e he => h.own e (List.mem_append_right A he)
  refine ⟨h.ext.trans h'.ext hM0, fun e he => ?_, h.rod, fun e he => ?_, ?_, fun e he => ?_⟩
  · have hr := h.ro e he
    rw [h'.ext.block e.1 (lt_of_get hr) (fun hm => (h.rod e he).2 (hM0 _ hm (h.rod e he).1))]; exact hr
  · rcases List.mem_append.1 he with he | he
    · exact h'.own e he
    · rw [h'.ext.block e.1 (lt_of_get (hT e he)) (hdis e he)]; exact hT e he
  · rw [List.map_append]
    refine List.nodup_append.2 ⟨h'.dist, (List.nodup_append.1 hnd).2.1, ?_⟩
    intro a ha b hb hab
    subst hab
    obtain ⟨e, he, rfl⟩ := List.mem_map.1 ha
    obtain ⟨e2, he2, hx⟩ := List.mem_map.1 hb
    rcases h'.mine e he with h1 | h1
    · have := lt_of_get (hT e2 he2)
      have hx' : e2.1 = e.1 := hx
      omega
    · exact hdis e2 he2 ((show e2.1 = e.1 from hx) ▸ h1)
  · rcases List.mem_append.1 he with he | he
    · rcases h'.mine e he with h1 | h1
      · exact .inl (Nat.le_trans h.ext.size h1)
      · obtain ⟨e2, he2, hx⟩ := List.mem_map.1 h1
        rw [← show e2.1 = e.1 from hx]; exact h.mine e2 (List.mem_append_left _ he2)
    · exact h.mine e (List.mem_append_right _ he)
end

section
variable {C : Cx} {R O : List (Nat × Obj)} {Γ : Env} {op : Oper}

/-- A call that makes A' of the blocks A. -/
theorem Eff.callH {f : FuncId} {fn : Func} {c : Code} {xs : List Operand} {tys : Array TypeId} {vs : List Value} {ι : Type} (V : ι → Value) (A : List (Nat × Obj)) (A' : ι → List (Nat × Obj)) (F : ι → Prop) (Fl T : List (Nat × Obj)) (hO : O = Fl ++ (A ++ T))
    (ho : op.op = .call ⟨.value (.func f), xs.toArray, tys⟩) (hf : C.P.funcs[f]? = some fn) (hnm : (fn.name == "runtime.NumGoroutine") = false) (hb : fn.body = some c) (hx : opds Γ xs = some vs)
    (h : ∀ w, HP C.w0 C.M R O w → Has w A → (A.map (·.1)).Nodup → Calls C.P f vs.toArray w fun e w' => ∃ x, F x ∧ e = .returned (V x) ∧ ∃ R1, HP w (A.map (·.1)) R1 (A' x) w') :
    Eff C R O Γ op ι V (fun x => Fl ++ (A' x ++ T)) F :=
  Eff.call ho hf hnm hb hx fun w hp => by
    have hp1 : HP C.w0 C.M R (A ++ (Fl ++ T)) w := hp.perm (by rw [hO]; exact List.perm_append_comm_assoc _ _ _)
    refine (h w hp (fun e he => hp1.own e (List.mem_append_left _ he)) (nodup_left hp1.dist)).mono ?_
    rintro e w' ⟨x, hF, he, R1, hp'⟩
    exact ⟨x, hF, he, (hp1.swap hp').perm (List.perm_append_comm_assoc _ _ _)⟩

/-- What a builder holds: its first cell, and the slice of its bytes. -/
abbrev Bd := Value × Own
def bl (T E b : Nat) (l : List UInt8) (B : Bd) : List (Nat × Obj) := (b, .cells #[B.1, .slice B.2.a l.length B.2.c] T (0, 0)) :: B.2.o E (bv l).toList
structure BdOk (b : Nat) (l : List UInt8) (B : Bd) : Prop where
  ptr : B.1 = .pointer none ∨ B.1 = .pointer (some ⟨b, 0, none⟩)
  own : OwnOk B.2 1 l.length (bv l).toList
  pos : ∀ p, B.2 = some p → 0 < p.2.1
def bd0 : Bd := (.pointer none, none)
theorem bd0_ok (b : Nat) : BdOk b [] bd0 := ⟨.inl rfl, OwnOk.none 1, fun _ h => by cases h⟩

theorem bl_start {T E b : Nat} {l : List UInt8} {B : Bd} {w : World} {R : List (Nat × Obj)} (hh : Has w (bl T E b l B)) (hd : ((bl T E b l B).map (·.1)).Nodup) (hR : Has w R) (hn : ∀ e ∈ R, e.1 ∉ (bl T E b l B).map (·.1)) :
    HP w ((bl T E b l B).map (·.1)) R ([(b, .cells #[B.1, .slice (Own.a B.2) l.length (Own.c B.2)] T (0, 0))] ++ (Own.o E (bv l).toList B.2 ++ [])) w := by
  rw [List.append_nil]
  exact HP.ofL hh hd hR hn

theorem bl_end {T E b : Nat} {l : List UInt8} {B : Bd} {w0 w : World} {M : List Nat} {R : List (Nat × Obj)} (h : HP w0 M R ([(b, .cells #[B.1, .slice (Own.a B.2) l.length (Own.c B.2)] T (0, 0))] ++ (Own.o E (bv l).toList B.2 ++ [])) w) : HP w0 M R (bl T E b l B) w := by
  rw [List.append_nil] at h
  exact h

/-- A new builder. -/
theorem Eff.allocB {t : TypeId} (E : Nat) (Fl T : List (Nat × Obj)) (hO : O = Fl ++ T) (ho : op.op = .alloc t) (hz0 : (C.P.info? t).bind (·.zero) = some (.agg #[.pointer none, .slice none 0 0])) :
    Eff C R O Γ op Nat (fun b => .pointer (some ⟨b, 0, none⟩)) (fun b => Fl ++ (bl t E b [] bd0 ++ T)) (fun b => C.w0.heap.size ≤ b ∧ b ∉ O.map (·.1)) :=
  (Eff.alloc ho hz0).perm (List.Perm.refl _) (fun b => by rw [hO]; exact List.perm_middle.symm)

theorem bv_list (l : List UInt8) : (bv l).toList = l.map fun b => Value.int .u8 b.toNat := rfl
theorem bv_app (a b : List UInt8) : (bv a).toList ++ (bv b).toList = (bv (a ++ b)).toList := by simp [bv_list]
theorem bv_len (l : List UInt8) : (bv l).toList.length = l.length := by simp [bv_list]
theorem strCells_bv (s : ByteArray) : Lib.strCells s = (bv s.data.toList).toList := rfl
theorem ba_len (s : ByteArray) : s.data.toList.length = s.size := by simp

/-- A text appended to bytes of one's own. -/
theorem Eff.appendS {t u e : TypeId} {x1 x2 : Operand} (ho : op.op = .call ⟨.builtin .append, #[x1, x2], #[t, u]⟩) (ht : C.P.underlying t = some (.slice e)) (hu : C.P.underlying u = some .string) (hsz : (C.P.info? e).map (fun i => (i.size, i.bytes)) = some (1, 1))
    (hz0 : (C.P.info? e).bind (·.zero) = some (.int .u8 0)) (own : Own) {n : Nat} {xs : List Value} (hok : OwnOk own 1 n xs) (hpos : ∀ p, own = some p → 0 < p.2.1) (h1 : opd Γ [] x1 = some (.slice own.a n own.c)) {s : ByteArray} (h2 : opd Γ [] x2 = some (.string s))
    (Fl T : List (Nat × Obj)) (hO : O = Fl ++ (own.o e xs ++ T)) (hroom : n + s.size ≤ 140737488355328) :
    Eff C R O Γ op Own (fun o => .slice o.a (n + s.size) o.c) (fun o => Fl ++ (o.o e (xs ++ (bv s.data.toList).toList) ++ T)) (fun o => OwnOk o 1 (n + s.size) (xs ++ (bv s.data.toList).toList) ∧ ∀ p, o = some p → 0 < p.2.1) := by
  have hperm : O.Perm (own.o e xs ++ (Fl ++ T)) := by rw [hO]; exact List.perm_append_comm_assoc _ _ _
  refine Eff.perm (O2 := own.o e xs ++ (Fl ++ T)) (O2' := fun o => o.o e (xs ++ (bv s.data.toList).toList) ++ (Fl ++ T)) ?_ hperm (fun x => List.perm_append_comm_assoc _ _ _)
  refine Eff.of_run fun a w hs hp => ?_
  obtain ⟨inf, hi, hse⟩ := Option.map_eq_some_iff.1 hsz
  obtain ⟨inf', hi', hz⟩ := Option.bind_eq_some_iff.1 hz0
  rw [hi] at hi'
  simp only [Option.some.injEq] at hi'
  subst hi'
  simp only [Prod.mk.injEq] at hse
  obtain ⟨hs1, hb1⟩ := hse
  have hxl : xs.length = n := by simpa using hok.len
  have hnl : (bv s.data.toList).toList.length = s.size := by rw [bv_len]; exact ba_len s
  have hlen : (xs ++ (bv s.data.toList).toList).length = (n + s.size) * 1 := by rw [List.length_append, hnl, hxl]; omega
  have hex : ∀ {v : Value} {w' : World}, (Builtin.append_ #[t, u] op.type #[a.eval x1, a.eval x2]).run C.P w = .ok v w' → (execOp a.eval op).run C.P w = .ok (.value v) w' := by
    intro v w' h
    simp [execOp, ho, resolve, invoke, builtin, h]
  have e1 := opd_ok hs (holds_nil _) h1
  have e2 := opd_ok hs (holds_nil _) h2
  have fresh : ∀ (c : Nat), n + s.size ≤ c → 0 < c → HP C.w0 C.M R (Fl ++ T) w → HP C.w0 C.M R (Own.o e (xs ++ (bv s.data.toList).toList) (some (w.heap.size, c, (Builtin.zeroCells (Value.int .u8 0).cells (c - (n + s.size))).toList)) ++ (Fl ++ T)) (w.drew.alloc (.cells (xs.toArray ++ (bv s.data.toList).toList.toArray ++ Builtin.zeroCells (Value.int .u8 0).cells (c - (n + s.size))) e)) ∧
      (OwnOk (some (w.heap.size, c, (Builtin.zeroCells (Value.int .u8 0).cells (c - (n + s.size))).toList)) 1 (n + s.size) (xs ++ (bv s.data.toList).toList) ∧ ∀ p : Nat × Nat × List Value, some (w.heap.size, c, (Builtin.zeroCells (Value.int .u8 0).cells (c - (n + s.size))).toList) = some p → 0 < p.2.1) := by
    intro c hc hc0 hp1
    have hp2 := (hp1.calm (ext_drew w)).alloc (.cells (xs.toArray ++ (bv s.data.toList).toList.toArray ++ Builtin.zeroCells (Value.int .u8 0).cells (c - (n + s.size))) e (0, 0))
    refine ⟨?_, ⟨hlen, fun h => (by cases h), fun p hp' => ?_⟩, fun p hp' => ?_⟩
    · have e3 : (xs.toArray ++ (bv s.data.toList).toList.toArray ++ Builtin.zeroCells (Value.int .u8 0).cells (c - (n + s.size))) = (xs ++ (bv s.data.toList).toList ++ (Builtin.zeroCells (Value.int .u8 0).cells (c - (n + s.size))).toList).toArray := by
        apply Array.ext'
        simp
      rw [e3] at hp2 ⊢
      exact hp2
    · simp only [Option.some.injEq] at hp'
      subst hp'
      refine ⟨?_, hc⟩
      have hz1 : (Value.int .u8 0).cells.size = 1 := rfl
      simp only [Array.length_toList, zeroCells_size, hlen, hz1]
      omega
    · simp only [Option.some.injEq] at hp'
      subst hp'
      exact hc0
  cases own with
  | none =>
    have hn := hok.nil rfl
    subst hn
    have hx : xs = [] := List.eq_nil_of_length_eq_zero hxl
    subst hx
    by_cases hm : s.size = 0
    · have hnn : (bv s.data.toList).toList = [] := List.eq_nil_of_length_eq_zero (by rw [hnl]; exact hm)
      refine ⟨none, w, ⟨by rw [hm, hnn]; exact OwnOk.none 1, fun _ h => by cases h⟩, hex ?_, ?_⟩
      · rw [e1, e2]
        have hf := Lib.run_firstCells_string (P := C.P) w 1 s
        rw [hm] at hf
        simp [Builtin.append_, run_underlying' ht, run_underlying' hu, sizeOf, typeInfo, hi, hs1, Builtin.lenOf, hm, hf, Own.a, Own.c]
      · exact hp
    · obtain ⟨f1, f2⟩ := fresh (grownCap w s.size 0 e) (by have := grownCap_ge w s.size 0 e; omega) (by have := grownCap_ge w s.size 0 e; omega) hp
      refine ⟨some (w.heap.size, grownCap w s.size 0 e, _), _, f2, hex ?_, f1⟩
      rw [e1, e2]
      have hr := run_append_nil_string (P := C.P) w t u op.type e inf (.int .u8 0) ht hu hi hz s (by omega) (by omega) (by rw [hb1]; omega)
      have e3 : (s.data.map fun b => Value.int .u8 b.toNat) = (bv s.data.toList).toList.toArray := by
        apply Array.ext'
        simp [bv_list]
      rw [e3] at hr
      simp only [Own.a, Own.c, Nat.zero_add, Array.empty_append] at hr ⊢
      exact hr
  | some p =>
    obtain ⟨b, cap, junk⟩ := p
    obtain ⟨hj, hnc⟩ := hok.some _ rfl
    have hp0 := hpos _ rfl
    simp only at hj hnc hp0
    have hget : (Own.o e xs (some (b, cap, junk)) ++ (Fl ++ T))[0]? = some (b, .cells (xs ++ junk).toArray e (0, 0)) := rfl
    have hb := hp.own _ (List.mem_of_getElem? hget)
    have hp1 : HP C.w0 C.M R (Fl ++ T) w := hp.sub (List.sublist_append_right _ _)
    by_cases hr : n + s.size ≤ cap
    · have hfit : n + s.size ≤ (xs ++ junk).toArray.size := by
        simp only [List.size_toArray, List.length_append]; omega
      have hrun := Lib.run_append_room_string (P := C.P) w t u op.type e inf ht hu hi hs1 b n cap (xs ++ junk).toArray hb s hr hfit
      have e3 : ((xs ++ junk).toArray.toList.take n ++ Lib.strCells s ++ (xs ++ junk).toArray.toList.drop (n + s.size)) = xs ++ (bv s.data.toList).toList ++ junk.drop s.size := by
        rw [strCells_bv, ← hxl]
        simp [List.drop_append, List.drop_eq_nil_of_le (show xs.length ≤ xs.length + s.size by omega)]
      rw [e3] at hrun
      refine ⟨some (b, cap, junk.drop s.size), _, ⟨⟨hlen, fun h => (by cases h), fun p hp' => ?_⟩, fun p hp' => ?_⟩, hex (by rw [e1, e2]; exact hrun), ?_⟩
      · simp only [Option.some.injEq] at hp'
        subst hp'
        refine ⟨?_, hr⟩
        simp only [List.size_toArray, List.length_append] at hfit
        simp only [List.length_append, List.length_drop, hnl]
        omega
      · simp only [Option.some.injEq] at hp'
        subst hp'
        exact hp0
      · exact hp.set 0 (.cells (xs ++ (bv s.data.toList).toList ++ junk.drop s.size).toArray e (0, 0)) hget (setRow_get hb) rfl rfl rfl
    · obtain ⟨f1, f2⟩ := fresh (grownCap w (n + s.size) cap e) (grownCap_ge w (n + s.size) cap e) (by have := grownCap_ge w (n + s.size) cap e; omega) hp1
      have holds : ∀ j v, xs[j]? = some v → w.cell? (Addr.add ⟨b, 0, none⟩ j) = some v := fun j v hjv => by
        rw [add_none, Nat.zero_add, cell_cells hb]
        have hlt : j < xs.length := (List.getElem?_eq_some_iff.1 hjv).1
        simp [List.getElem?_append_left hlt, hjv]
      have hrun := Lib.run_append_grow_string (P := C.P) w t u op.type e inf (.int .u8 0) ht hu hi hz ⟨b, 0, none⟩ n cap xs (by rw [hs1]; simpa using hxl) holds s (by omega) (by omega) (by rw [hb1]; exact growslice_fits (by omega) (by omega))
      exact ⟨some (w.heap.size, grownCap w (n + s.size) cap e, _), _, f2, hex (by rw [e1, e2]; exact hrun), f1⟩

/-- append of a row, with what a builder asks. -/
theorem Eff.appendP {t e : TypeId} {x1 x2 : Operand} (ho : op.op = .call ⟨.builtin .append, #[x1, x2], #[t, t]⟩) (ht : C.P.underlying t = some (.slice e)) (hsz : (C.P.info? e).map (fun i => (i.size, i.bytes)) = some (1, 1))
    {z : Value} (hz0 : (C.P.info? e).bind (·.zero) = some z) (hzs : z.cells.size = 1) (own : Own) {n : Nat} {xs : List Value} (hok : OwnOk own 1 n xs) (h1 : opd Γ [] x1 = some (.slice own.a n own.c))
    {b2 off2 m c2 : Nat} (h2 : opd Γ [] x2 = some (.slice (some ⟨b2, off2, none⟩) m c2)) (news : List Value) (hl : news.length = m * 1) (hone : ∀ v ∈ news, one v = true) (Fl T : List (Nat × Obj)) (hO : O = Fl ++ (own.o e xs ++ T))
    (hsrc : ∀ w, HP C.w0 C.M R O w → ∀ j v, news[j]? = some v → w.cell? ⟨b2, off2 + j, none⟩ = some v) (hroom : (n + m) * 1 ≤ 140737488355328) (h63 : n + m ≤ 9223372036854775807) (h0 : 0 < n + m) :
    Eff C R O Γ op Own (fun o => .slice o.a (n + m) o.c) (fun o => Fl ++ (o.o e (xs ++ news) ++ T)) (fun o => OwnOk o 1 (n + m) (xs ++ news) ∧ ∀ p, o = some p → 0 < p.2.1) :=
  fun a w hs hp Kt Q hK => Eff.appendF ho 1 1 ht hsz hz0 hzs own hok h1 h2 news hl hone Fl T hO hsrc hroom h63 a w hs hp Kt Q (fun x w' hF hp' => hK x w' ⟨hF, fun p hpx => Nat.lt_of_lt_of_le h0 (hF.some p hpx).2⟩ hp')

/-- unsafe.SliceData of a slice of one's own. -/
theorem Eff.sliceData {t : TypeId} {x : Operand} (ho : op.op = .call ⟨.builtin .unsafeSliceData, #[x], #[t]⟩) (own : Own) (hpos : ∀ p, own = some p → 0 < p.2.1) {n : Nat} (hx : opd Γ [] x = some (.slice own.a n own.c)) :
    Eff C R O Γ op Unit (fun _ => .pointer own.a) (fun _ => O) (fun _ => True) := by
  refine Eff.of_run fun a w hs hp => ⟨(), w, trivial, ?_, hp⟩
  have e1 := opd_ok hs (holds_nil _) hx
  have hrun : (Builtin.unsafeSliceData_ #[t] op.type #[.slice own.a n own.c]).run C.P w = .ok (.pointer own.a) w := by
    cases own with
    | none => rfl
    | some p =>
      have hp0 := hpos p rfl
      obtain ⟨b, cap, junk⟩ := p
      have hc : ¬ cap = 0 := by simp only at hp0; omega
      simp only [Own.a, Own.c]
      refine Eq.trans (b := Sem.run C.P (if cap ≠ 0 then pure (.pointer (some ⟨b, 0, none⟩)) else _) w) rfl ?_
      rw [if_pos hc]; rfl
  simp [execOp, ho, resolve, invoke, builtin, e1, hrun]

theorem liesAt_off {P : Program} {e : TypeId} (hc : P.cellsOf e = 1) (count off n : Nat) (hn : off + n ≤ count) : liesAt P P.depth e count off e n = true := by
  have hd : P.depth = (2 * (P.types.size + Made.depth) + 1) + 1 := rfl
  rw [hd]
  simp only [liesAt, Bool.or_eq_true]
  left
  rw [hd]
  simp [rowAt, hc, hn, sameLayout, Nat.mod_one]

theorem run_unsafeString {P : Program} {w : World} {pt it ty e : TypeId} (hp : P.underlying pt = some (.pointer e)) (hc : P.cellsOf e = 1) {g off cells : Nat} (hsh : w.shape? g = some (e, cells)) {l : List UInt8} (h0 : l ≠ []) (hn : off + l.length ≤ cells) (h63 : l.length ≤ 9223372036854775807)
    (hcell : ∀ j x, l[j]? = some x → w.cell? ((⟨g, off, none⟩ : Addr).add j) = some (.int .u8 x.toNat)) :
    (Builtin.unsafeString_ #[pt, it] ty #[.pointer (some ⟨g, off, none⟩), .int .i64 l.length]).run P w = .ok (.string ⟨l.toArray⟩) (w.freeze ⟨g, off, none⟩ l.length) := by
  have hl : l.length ≠ 0 := by simpa using h0
  have hlb := Lib.run_loadBytes (P := P) w l ⟨g, off, none⟩ .empty hcell
  have hlies := liesAt_off (P := P) hc (cells / P.cellsOf e) off l.length (by rw [hc]; simpa using hn)
  have h63' : ¬ (9223372036854775807 : Int) < (l.length : Int) := by omega
  refine Eq.trans (b := Sem.run P (Bind.bind (asInt (.int .i64 l.length)) _) w) rfl ?_
  have hmax : IntKind.i64.max = 9223372036854775807 := rfl
  have hneg : ¬ (l.length : Int) < 0 := by omega
  simp [asInt, asIntOf, hmax, h63', hneg, hl, variablesAt, hsh, elemOf, run_underlying' hp, hlies, hlb]

theorem ext_freeze (w : World) (b off n : Nat) : Ext [b] w (w.freeze ⟨b, off, none⟩ n) := by
  unfold World.freeze
  split
  · exact Ext.refl _ _
  · refine ⟨rfl, rfl, rfl, by simp, fun k hk hn => ?_⟩
    have : b ≠ k := fun e => hn (by simp [e])
    simp [Array.getElem?_modify, this]

/-- unsafe.String over the bytes of one's own: they are read, and left. -/
theorem Eff.unsafeStr {pt it e : TypeId} {x y : Operand} (ho : op.op = .call ⟨.builtin .unsafeString, #[x, y], #[pt, it]⟩) (hpt : C.P.underlying pt = some (.pointer e)) (hc : C.P.cellsOf e = 1) (own : Own) {l : List UInt8} (hok : OwnOk own 1 l.length (bv l).toList)
    (hx : opd Γ [] x = some (.pointer own.a)) (hy : opd Γ [] y = some (.int .i64 l.length)) (Fl T : List (Nat × Obj)) (hO : O = Fl ++ (own.o e (bv l).toList ++ T)) (h63 : l.length ≤ 9223372036854775807) :
    Eff C R O Γ op Unit (fun _ => .string ⟨l.toArray⟩) (fun _ => Fl ++ T) (fun _ => True) := by
  refine Eff.of_run fun a w hs hp => ?_
  have e1 := opd_ok hs (holds_nil _) hx
  have e2 := opd_ok hs (holds_nil _) hy
  have hex : ∀ {v : Value} {w' : World}, (Builtin.unsafeString_ #[pt, it] op.type #[a.eval x, a.eval y]).run C.P w = .ok v w' → (execOp a.eval op).run C.P w = .ok (.value v) w' := by
    intro v w' h
    simp [execOp, ho, resolve, invoke, builtin, h]
  have hperm : O.Perm (own.o e (bv l).toList ++ (Fl ++ T)) := by rw [hO]; exact List.perm_append_comm_assoc _ _ _
  have hp1 := hp.perm hperm
  have hsub : HP C.w0 C.M R (Fl ++ T) w := hp1.sub (List.sublist_append_right _ _)
  by_cases h0 : l = []
  · subst h0
    exact ⟨(), w, trivial, hex (by rw [e1, e2]; exact Lib.run_unsafeString_none w pt it op.type own.a), hsub⟩
  · obtain ⟨p, rfl⟩ := own_some hok (List.length_pos_iff.2 h0)
    obtain ⟨b, cap, junk⟩ := p
    have hb := hp1.own (b, .cells ((bv l).toList ++ junk).toArray e (0, 0)) (List.mem_cons_self ..)
    simp only at hb
    have hsh : w.shape? b = some (e, ((bv l).toList ++ junk).length) := by simp [World.shape?, hb]
    have hcell : ∀ j x, l[j]? = some x → w.cell? ((⟨b, 0, none⟩ : Addr).add j) = some (.int .u8 x.toNat) := fun j x hj => by
      rw [add_none, Nat.zero_add, cell_cells hb]
      have hlt : j < l.length := (List.getElem?_eq_some_iff.1 hj).1
      simp [bv_list, List.getElem?_append_left (show j < (l.map fun b => Value.int .u8 b.toNat).length by simpa using hlt), hj]
    have hrun := run_unsafeString (P := C.P) (w := w) (it := it) (ty := op.type) hpt hc hsh h0 (off := 0) (by rw [List.length_append, bv_len]; omega) h63 hcell
    refine ⟨(), _, trivial, hex (by rw [e1, e2]; exact hrun), ?_⟩
    refine hp1.call (ext_freeze w b 0 l.length) (Fl ++ T) (List.sublist_append_right _ _) (fun k hk => ?_) (fun x hx hm => ?_)
    · simp only [List.mem_cons, List.not_mem_nil, or_false] at hk
      subst hk
      exact List.mem_map.2 ⟨_, List.mem_append_left _ (List.mem_cons_self ..), rfl⟩
    · simp only [List.mem_cons, List.not_mem_nil, or_false] at hm
      have hd := hp1.dist
      rw [List.map_append] at hd
      exact (List.nodup_append.1 hd).2.2 b (by simp [Own.o]) x.1 (List.mem_map.2 ⟨x, hx, rfl⟩) hm.symm

/-- A pointer's conversion, or a comparison, that gives a known value. -/
theorem Eff.conv {src dst : TypeId} {x : Operand} {u : Value} (v : Value) (ho : op.op = .convert src dst x) (hx : opd Γ [] x = some u) (h : ∀ w, HP C.w0 C.M R O w → (convert src dst u).run C.P w = .ok v w) : Eff C R O Γ op Unit (fun _ => v) (fun _ => O) (fun _ => True) :=
  Eff.of_run fun a w hs hp => ⟨(), w, trivial, by simp [execOp, ho, opd_ok hs (holds_nil _) hx, h w hp], hp⟩

theorem Eff.neqSame {ty ty' e : TypeId} {x y : Operand} {p : Addr} (ho : op.op = .binOp .neq ty x y ty') (hx : opd Γ [] x = some (.pointer (some p))) (hy : opd Γ [] y = some (.pointer (some p))) (hu : C.P.underlying ty = some (.pointer e)) (hi : (C.P.info? e).isSome = true) :
    Eff C R O Γ op Unit (fun _ => .bool false) (fun _ => O) (fun _ => True) :=
  Eff.of_run fun a w hs hp => ⟨(), w, trivial, by
    obtain ⟨j, hj⟩ := Option.isSome_iff_exists.1 hi
    have hr := Lib.run_neq_ptr_same (P := C.P) w p hu hj
    have e1 := opd_ok hs (holds_nil _) hx
    have e2 := opd_ok hs (holds_nil _) hy
    simp [execOp, ho, e1, e2, hr, eqGuard], hp⟩

theorem shape_of {w : World} {b : Nat} {cs : Array Value} {t : TypeId} {fr : Nat × Nat} (h : w.heap[b]? = some (.cells cs t fr)) : w.shape? b = some (t, cs.size) := by simp [World.shape?, h]

theorem toUnsafe {P : Program} {w : World} {src dst t : TypeId} {b : Nat} {cs : Array Value} {fr : Nat × Nat} (hs : P.underlying src = some (.pointer t)) (hd : P.underlying dst = some .unsafePointer) (ht : (P.info? t).map (·.size) = some 2) (hb : w.heap[b]? = some (.cells cs t fr)) (h2 : cs.size = 2) :
    (convert src dst (.pointer (some ⟨b, 0, none⟩))).run P w = .ok (.pointer (some ⟨b, 0, none⟩)) w := by
  obtain ⟨j, hj, hj2⟩ := Option.map_eq_some_iff.1 ht
  exact Lib.run_to_unsafe w ⟨b, 0, none⟩ hs hd hj (by rw [hj2]; decide) (shape_of hb) (by show 0 < cs.size; omega)
theorem fromUnsafe {P : Program} {w : World} {src dst t : TypeId} {b : Nat} {cs : Array Value} {fr : Nat × Nat} (hs : P.underlying src = some .unsafePointer) (hd : P.underlying dst = some (.pointer t)) (ht : (P.info? t).map (·.size) = some 2) (hl : liesAt P P.depth t (2 / P.cellsOf t) 0 t 1 = true) (hb : w.heap[b]? = some (.cells cs t fr)) (h2 : cs.size = 2) :
    (convert src dst (.pointer (some ⟨b, 0, none⟩))).run P w = .ok (.pointer (some ⟨b, 0, none⟩)) w := by
  obtain ⟨j, hj, hj2⟩ := Option.map_eq_some_iff.1 ht
  exact Lib.run_from_unsafe w ⟨b, 0, none⟩ hs hd hj (shape_of hb) (by rw [h2]; exact hl)
end
end K
end Go.Proofs.YtoopekjbikcebaaDoor
