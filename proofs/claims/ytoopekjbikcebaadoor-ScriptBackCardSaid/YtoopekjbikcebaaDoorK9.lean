/- Rows of bytes; whole rows loaded. -/
import Derived.Test.YtoopekjbikcebaaDoorK8
import Derived.Stop.BytesEq
namespace Go.Proofs.YtoopekjbikcebaaDoor
namespace K

def bv (l : List UInt8) : Array Value := (l.map fun b => Value.int .u8 b.toNat).toArray

theorem bv_size (l : List UInt8) : (bv l).size = l.length := by simp [bv]

theorem bv_get {l : List UInt8} {n i : Nat} (hl : l.length = n) (h : i < n) : (bv l)[i]? = some (.int .u8 ((l.getD i 0).toNat : Int)) := by
  have h' : i < l.length := by omega
  simp [bv, List.getElem?_eq_getElem h']

theorem bv_set {l : List UInt8} {i : Nat} {x : Int} (h0 : 0 ≤ x) (h1 : x ≤ 255) : (bv l).setIfInBounds i (.int .u8 x) = bv (l.set i (UInt8.ofNat x.toNat)) := by
  apply Array.ext'
  simp [bv, List.map_set]
  rw [show max x 0 % 256 = x by omega]

section
variable {P : Program} {w0 w : World} {M : List Nat} {R O : List (Nat × Obj)}

theorem load_row {g n : Nat} {t ty : TypeId} {cs : Array Value} {fr : Nat × Nat} {d : TypeDesc} (hg : w.heap[g]? = some (.cells cs t fr)) (hu : P.underlying ty = some d) (hd : (match d with | .struct _ | .array _ _ => true | _ => false) = true)
    (hi : (P.info? ty).map (·.size) = some n) (hn : cs.size = n) : (loadVar ty ⟨g, 0, none⟩).run P w = .ok (.agg cs) w :=
  run_loadVar_row w g t ty cs fr d hg hu hd (by rw [hn]; exact hi)

theorem HP.oload (h : HP w0 M R O w) (i : Nat) {b n : Nat} {ty t : TypeId} {cs : Array Value} {fr : Nat × Nat} {d : TypeDesc} (ho : O[i]? = some (b, .cells cs t fr)) (hu : P.underlying ty = some d) (hd : (match d with | .struct _ | .array _ _ => true | _ => false) = true)
    (hi : (P.info? ty).map (·.size) = some n) (hn : cs.size = n) : (loadVar ty ⟨b, 0, none⟩).run P w = .ok (.agg cs) w :=
  load_row (h.own _ (List.mem_of_getElem? ho)) hu hd hi hn

theorem HP.rload (h : HP w0 M R O w) (i : Nat) {b n : Nat} {ty t : TypeId} {cs : Array Value} {fr : Nat × Nat} {d : TypeDesc} (ho : R[i]? = some (b, .cells cs t fr)) (hu : P.underlying ty = some d) (hd : (match d with | .struct _ | .array _ _ => true | _ => false) = true)
    (hi : (P.info? ty).map (·.size) = some n) (hn : cs.size = n) : (loadVar ty ⟨b, 0, none⟩).run P w = .ok (.agg cs) w :=
  load_row (h.ro _ (List.mem_of_getElem? ho)) hu hd hi hn

theorem run_loadCellsFrom {b off : Nat} (f : Nat → Value) : ∀ (n i : Nat) (acc : Array Value), (∀ j, i ≤ j → j < i + n → w.cell? ⟨b, off + j, none⟩ = some (f j)) →
    (loadCellsFrom ⟨b, off, none⟩ i n acc).run P w = .ok (acc ++ ((List.range' i n).map f).toArray) w
  | 0, i, acc, _ => by simp [loadCellsFrom]
  | n + 1, i, acc, h => by
    have h0 := h i (Nat.le_refl _) (by omega)
    have hl : (load (Addr.add ⟨b, off, none⟩ i)).run P w = .ok (f i) w := by
      rw [add_none]; simp [load, Sem.run, h0]
    have ih := run_loadCellsFrom f n (i + 1) (acc.push (f i)) (fun j h1 h2 => h j (by omega) (by omega))
    unfold loadCellsFrom
    simp only [Sem.run_bind, hl, Result.andThen_ok, ih, List.range'_succ, List.map_cons]
    congr 1
    apply Array.ext'
    simp

theorem run_loadCells {b off n : Nat} (f : Nat → Value) (h : ∀ j, j < n → w.cell? ⟨b, off + j, none⟩ = some (f j)) : (loadCells ⟨b, off, none⟩ n).run P w = .ok ((List.range n).map f).toArray w := by
  have := run_loadCellsFrom (P := P) (w := w) (b := b) (off := off) f n 0 #[] (fun j _ hj => h j (by omega))
  simpa [loadCells, List.range_eq_range'] using this

theorem foldl_push (l : List UInt8) : ∀ (s : ByteArray), (l.map fun b => (b.toNat : Int)).foldl (fun r n => r.push (UInt8.ofNat n.toNat)) s = ⟨s.data ++ l.toArray⟩ := by
  induction l with
  | nil => intro s; simp
  | cons x l ih =>
    intro s
    simp only [List.map_cons, List.foldl_cons, ih]
    congr 1
    apply Array.ext'
    simp [ByteArray.push]

/-- The text of a row of bytes. -/
theorem bytes_str {b off n c : Nat} {l : List UInt8} (hl : l.length = n) (h : ∀ j, j < n → w.cell? ⟨b, off + j, none⟩ = some (.int .u8 ((l.getD j 0).toNat : Int))) :
    (Conv.bytesToString (.slice (some ⟨b, off, none⟩) n c)).run P w = .ok (.string ⟨l.toArray⟩) w := by
  have h1 := run_loadCells (P := P) (w := w) (b := b) (off := off) (n := n) (fun j => .int .u8 ((l.getD j 0).toNat : Int)) h
  have h2 : ((List.range n).map fun j => Value.int .u8 ((l.getD j 0).toNat : Int)) = (l.map fun b => (b.toNat : Int)).map (Value.int .u8) := by
    apply List.ext_getElem?
    intro i
    by_cases hi : i < n
    · have hi' : i < l.length := by omega
      simp [hi, List.getElem?_eq_getElem hi']
    · have hi' : l.length ≤ i := by omega
      simp [hi, List.getElem?_eq_none hi']
  rw [h2] at h1
  rw [run_bytesToString w _ n c _ h1, foldl_push]
  simp [ByteArray.empty, ByteArray.emptyWithCapacity]
  rfl

theorem HP.ostr (h : HP w0 M R O w) (i : Nat) {b n c : Nat} {t : TypeId} {fr : Nat × Nat} {l : List UInt8} (ho : O[i]? = some (b, .cells (bv l) t fr)) (hl : l.length = n) :
    (Conv.bytesToString (.slice (some ⟨b, 0, none⟩) n c)).run P w = .ok (.string ⟨l.toArray⟩) w :=
  bytes_str hl fun j hj => by rw [Nat.zero_add]; exact h.ocell i ho (bv_get hl hj)

/-- vs written over cs from off on. -/
def spl (cs : Array Value) (off : Nat) : List Value → Array Value
  | [] => cs
  | v :: vs => spl (cs.setIfInBounds off v) (off + 1) vs

theorem spl_list (A B C : List Value) : ∀ (vs : List Value), vs.length = B.length → spl (A ++ B ++ C).toArray A.length vs = (A ++ vs ++ C).toArray := by
  induction B generalizing A with
  | nil => intro vs h; cases vs with
    | nil => rfl
    | cons _ _ => simp at h
  | cons x B ih =>
    intro vs h
    cases vs with
    | nil => simp at h
    | cons v vs =>
      have := ih (A ++ [v]) vs (by simpa using h)
      simp only [spl]
      have e : (A ++ (x :: B) ++ C).toArray.setIfInBounds A.length v = (A ++ [v] ++ B ++ C).toArray := by
        apply Array.ext'
        simp
      rw [e]
      simpa using this

theorem spl_all {cs vs : Array Value} (h : vs.size = cs.size) : spl cs 0 vs.toList = vs := by
  have := spl_list [] cs.toList [] vs.toList (by simpa using h)
  simpa using this

theorem run_storeCells {b off : Nat} {t : TypeId} : ∀ (vs : List Value) (i : Nat) (cs : Array Value) (w : World), w.heap[b]? = some (.cells cs t (0, 0)) → off + i + vs.length ≤ cs.size → (∀ v ∈ vs, one v = true) →
    ∃ w', (storeCells ⟨b, off, none⟩ vs i).run P w = .ok () w' ∧ w'.heap = w.heap.setIfInBounds b (.cells (spl cs (off + i) vs) t (0, 0)) ∧ w'.os = w.os ∧ w'.tape = w.tape ∧ w'.output = w.output
  | [], i, cs, w, hb, _, _ => by
    refine ⟨w, rfl, ?_, rfl, rfl, rfl⟩
    simp only [spl]
    apply Array.ext_getElem?
    intro k
    have hlt := lt_of_get hb
    by_cases hk : b = k
    · subst hk; rw [hb]; simp [hlt]
    · simp [hk]
  | v :: vs, i, cs, w, hb, hl, h1 => by
    have hi : off + i < cs.size := by simp at hl; omega
    have hc : w.cell? ⟨b, off + i, none⟩ = some (cs[off + i]) := by rw [cell_cells hb]; exact Array.getElem?_eq_getElem hi
    have hfz : w.frozen? ⟨b, off + i, none⟩ = false := by simp [World.frozen?, hb]
    have hv1 := h1 v (List.mem_cons_self ..)
    have hst : (store (Addr.add ⟨b, off, none⟩ i) v).run P w = .ok () (w.setCell ⟨b, off + i, none⟩ v) := by
      rw [add_none]
      unfold store
      cases v <;> simp [one] at hv1 <;> simp [Sem.run, hc, hfz]
    have hh := setCell_heap (off := off + i) (v := v) hb
    have hb' : (w.setCell ⟨b, off + i, none⟩ v).heap[b]? = some (.cells (cs.setIfInBounds (off + i) v) t (0, 0)) := by rw [hh]; simp [lt_of_get hb]
    obtain ⟨w', hr, hw, h2, h3, h4⟩ := run_storeCells (off := off) vs (i + 1) _ _ hb' (by simp at hl ⊢; omega) (fun x hx => h1 x (List.mem_cons_of_mem _ hx))
    refine ⟨w', ?_, ?_, h2, h3, h4⟩
    · unfold storeCells
      simp only [Sem.run_bind, hst, Result.andThen_ok, hr]
    · rw [hw, hh]
      simp only [spl]
      apply Array.ext_getElem?
      intro k
      by_cases hk : b = k
      · subst hk; simp [lt_of_get hb, Nat.add_assoc]
      · simp [hk]

theorem all_bv (l : List UInt8) : ∀ v ∈ (bv l).toList, one v = true := by
  intro v hv
  simp only [bv, List.mem_map] at hv
  obtain ⟨x, _, rfl⟩ := hv
  rfl

theorem equal_bv {t e : TypeId} {n : Nat} (ht : P.underlying t = some (.array n e)) (he : P.underlying e = some (.int .u8)) (hsz : (P.info? e).map (·.size) = some 1) {xs ys : List UInt8} (hx : xs.length = n) (hy : ys.length = n) :
    (Op.equal t (.agg (bv xs)) (.agg (bv ys))).run P w = .ok (xs == ys) w := by
  obtain ⟨inf, hi, hs⟩ := Option.map_eq_some_iff.1 hsz
  exact run_equalIn_bytes w 9998 t e n ht he (fun w => by rw [run_sizeOf' hi, hs]) xs ys hx hy

variable {C : Cx} {Γ : Env} {o : Oper}

/-- A store of a whole array or struct into an own block. -/
theorem Eff.storeN {t : TypeId} {x y : Operand} {b off : Nat} {vs : Array Value} (ho : o.op = .store t x y) (hx : opd Γ [] x = some (.pointer (some ⟨b, off, none⟩))) (hy : opd Γ [] y = some (.agg vs)) {n : Nat}
    (hsz0 : (C.P.info? t).map (·.size) = some n) (hn : vs.size = n) (h1 : ∀ v ∈ vs.toList, one v = true) (i : Nat) {cs : Array Value} {e : TypeId} (hO : O[i]? = some (b, .cells cs e (0, 0))) (hoff : off + n ≤ cs.size) :
    Eff C R O Γ o Unit (fun _ => undef) (fun _ => O.set i (b, .cells (spl cs off vs.toList) e (0, 0))) (fun _ => True) := by
  refine Eff.of_skip fun a w hs hp => ?_
  obtain ⟨inf, hi, hsz⟩ := Option.map_eq_some_iff.1 hsz0
  have hb := hp.own _ (List.mem_of_getElem? hO)
  obtain ⟨w', hr, hw, h2, h3, h4⟩ := run_storeCells (P := C.P) (off := off) vs.toList 0 cs w hb (by simp; omega) h1
  refine ⟨(), w', trivial, ?_, hp.set i _ hO hw h2 h3 h4⟩
  have hsz' : vs.size = inf.size := by omega
  simp [execOp, ho, opd_ok hs (holds_nil _) hx, opd_ok hs (holds_nil _) hy, Instr.storeAt, Instr.sureAddr, storeVar, run_sizeOf' hi, hsz', Value.cells, hr]

end
end K
end Go.Proofs.YtoopekjbikcebaaDoor
