/- Copying a text into own memory; a block that a call may change; rows of 32-bit words. -/
import Derived.Test.YtoopekjbikcebaaDoorK10
namespace Go.Proofs.YtoopekjbikcebaaDoor
namespace K

theorem HP.startM {w : World} {R : List (Nat × Obj)} {b : Nat} {ob : Obj} (hR : Has w R) (hb : w.heap[b]? = some ob) (hn : b ∉ R.map (·.1)) : HP w [b] R [(b, ob)] w :=
  ⟨Ext.refl _ _, hR, fun e he => ⟨lt_of_get (hR e he), fun hm => hn (by
    simp only [List.mem_cons, List.not_mem_nil, or_false] at hm
    rw [← hm]; exact List.mem_map.2 ⟨e, he, rfl⟩)⟩, (fun e he => by
    simp only [List.mem_cons, List.not_mem_nil, or_false] at he
    subst he; exact hb), by simp, (fun e he => by
    simp only [List.mem_cons, List.not_mem_nil, or_false] at he
    subst he; exact .inr (List.mem_cons_self ..))⟩

section
variable {C : Cx} {R O : List (Nat × Obj)} {Γ : Env} {o : Oper}

/-- copy of a text into an own block. -/
theorem Eff.copyS {t1 t2 e : TypeId} {x1 x2 : Operand} (ho : o.op = .call ⟨.builtin .copy, #[x1, x2], #[t1, t2]⟩) (ht : C.P.underlying t1 = some (.slice e)) (hsz : (C.P.info? e).map (·.size) = some 1)
    {b off dl c : Nat} (h1 : opd Γ [] x1 = some (.slice (some ⟨b, off, none⟩) dl c)) {s : ByteArray} (h2 : opd Γ [] x2 = some (.string s)) (i : Nat) {cs : Array Value} {te : TypeId} (hO : O[i]? = some (b, .cells cs te (0, 0))) (n : Nat) (hn : n = min s.size dl) (hoff : off + n ≤ cs.size) :
    Eff C R O Γ o Unit (fun _ => .int .i64 (n : Int)) (fun _ => O.set i (b, .cells (spl cs off (bv (s.data.toList.take n)).toList) te (0, 0))) (fun _ => True) := by
  refine Eff.of_run fun a w hs hp => ?_
  obtain ⟨inf, hi, hs1⟩ := Option.map_eq_some_iff.1 hsz
  have hb := hp.own _ (List.mem_of_getElem? hO)
  have hlen : (bv (s.data.toList.take n)).toList.length = n := by
    rw [Array.length_toList, bv_size, List.length_take, Array.length_toList]
    have : s.data.size = s.size := rfl
    omega
  obtain ⟨w', hr, hw, h3, h4, h5⟩ := run_storeCells (P := C.P) (off := off) (bv (s.data.toList.take n)).toList 0 cs w hb (by rw [hlen]; omega) (all_bv _)
  refine ⟨(), w', trivial, ?_, hp.set i _ hO hw h3 h4 h5⟩
  have hmin : Nat.min s.size dl = n := hn.symm
  have hc : List.take n (Array.map (fun b => Value.int .u8 (b.toNat : Int)) s.data).toList = (bv (s.data.toList.take n)).toList := by
    simp [bv, List.map_take]
  simp [execOp, ho, resolve, invoke, builtin, opd_ok hs (holds_nil _) h1, opd_ok hs (holds_nil _) h2, Builtin.copy_, run_underlying' ht, run_sizeOf' hi, Builtin.lenOf, Builtin.firstCells, hmin, -Array.toList_map]
  rw [hc, hr]
  rfl
end

/-- 32-bit words as cells. -/
def wv (l : List Nat) : Array Value := (l.map fun (n : Nat) => Value.int .u32 (n : Int)).toArray

theorem wv_size (l : List Nat) : (wv l).size = l.length := by simp [wv]

theorem wv_get {l : List Nat} {n i : Nat} (hl : l.length = n) (h : i < n) : (wv l)[i]? = some (.int .u32 ((l.getD i 0 : Nat) : Int)) := by
  have h' : i < l.length := by omega
  simp [wv, List.getElem?_eq_getElem h']

theorem wv_set {l : List Nat} {i : Nat} {x : Int} (h0 : 0 ≤ x) : (wv l).setIfInBounds i (.int .u32 x) = wv (l.set i x.toNat) := by
  apply Array.ext'
  simp [wv, List.map_set]
  rw [show max x 0 = x by omega]

theorem all_wv (l : List Nat) : ∀ v ∈ (wv l).toList, one v = true := by
  intro v hv
  simp only [wv, List.mem_map] at hv
  obtain ⟨x, _, rfl⟩ := hv
  rfl

theorem load_words {P : Program} {w : World} {b off n : Nat} {ty : TypeId} {d : TypeDesc} {l : List Nat} (hu : P.underlying ty = some d) (hd : (match d with | .struct _ | .array _ _ => true | _ => false) = true) (hi : (P.info? ty).map (·.size) = some n) (hl : l.length = n)
    (h : ∀ j, j < n → w.cell? ⟨b, off + j, none⟩ = some (.int .u32 ((l.getD j 0 : Nat) : Int))) : (loadVar ty ⟨b, off, none⟩).run P w = .ok (.agg (wv l)) w := by
  obtain ⟨inf, hinf, hs⟩ := Option.map_eq_some_iff.1 hi
  have h1 := run_loadCells (P := P) (w := w) (b := b) (off := off) (n := n) (fun j => .int .u32 ((l.getD j 0 : Nat) : Int)) h
  have h2 : ((List.range n).map fun j => Value.int .u32 ((l.getD j 0 : Nat) : Int)).toArray = wv l := by
    apply Array.ext'
    simp only [wv]
    apply List.ext_getElem?
    intro i
    by_cases hi : i < n
    · have hi' : i < l.length := by omega
      simp [hi, List.getElem?_eq_getElem hi']
    · have hi' : l.length ≤ i := by omega
      simp [hi, List.getElem?_eq_none hi']
  rw [h2] at h1
  have h3 : (isAgg ty).run P w = .ok true w := by
    simp only [isAgg, Sem.run_bind, run_underlying' hu, Result.andThen_ok]
    cases d <;> simp_all
  have h4 : (sizeOf ty).run P w = .ok n w := by rw [run_sizeOf' hinf, hs]
  simp [loadVar, h3, h4, h1]

end K
end Go.Proofs.YtoopekjbikcebaaDoor
