/- Calls of functions that have no body, as the model runs them; bytes compared. -/
import Derived.Test.YtoopekjbikcebaaDoorK11
namespace Go.Proofs.YtoopekjbikcebaaDoor
namespace K

theorem run_extern {P : Program} {w w' : World} {f : Nat} {fn : Func} {args : Array Value} {e : Array Value → Sem Value} {v : Value} (hf : P.funcs[f]? = some fn) (hnm : (fn.name == "runtime.NumGoroutine") = false) (hb : fn.body.isNone = true)
    (h1 : (Extern.findNext fn).isNone = true) (h2 : Extern.find fn = some e) (hr : (e args).run P w = .ok v w') : (callFunc f args).run P w = .ok (.value v) w' := by
  have h1' : Extern.findNext fn = none := Option.isNone_iff_eq_none.1 h1
  unfold callFunc
  simp only [Sem.run_bind, program, Sem.run, Result.andThen_ok, hf, hnm, hb, Bool.false_eq_true, if_false, if_true, mark, h1', h2]
  rw [hr]
  rfl

/-- A call of a function without a body that gives a value and changes nothing. -/
theorem Eff.callE {C : Cx} {R O : List (Nat × Obj)} {Γ : Env} {o : Oper} {f : FuncId} {fn : Func} {xs : List Operand} {tys : Array TypeId} {vs : List Value} (v : Value) {e : Array Value → Sem Value} (ho : o.op = .call ⟨.value (.func f), xs.toArray, tys⟩) (hf : C.P.funcs[f]? = some fn)
    (hnm : (fn.name == "runtime.NumGoroutine") = false) (hb : fn.body.isNone = true) (h1 : (Extern.findNext fn).isNone = true) (h2 : Extern.find fn = some e) (hx : opds Γ xs = some vs)
    (h : ∀ w, HP C.w0 C.M R O w → (e vs.toArray).run C.P w = .ok v w) : Eff C R O Γ o Unit (fun _ => v) (fun _ => O) (fun _ => True) :=
  Eff.of_run fun a w hs hp => ⟨(), w, trivial, by
    have hargs := opds_ok hs hx
    have hc := run_extern hf hnm hb h1 h2 (h w hp)
    simp [execOp, ho, resolve, Deferred.ofValue, Act.eval, invoke, hargs, hc], hp⟩

theorem run_loadBytes {P : Program} {w : World} {b : Nat} : ∀ (l : List UInt8) (off : Nat) (acc : ByteArray), (∀ j, j < l.length → w.cell? ⟨b, off + j, none⟩ = some (.int .u8 ((l.getD j 0).toNat : Int))) →
    (Extern.Bytes.loadBytes ⟨b, off, none⟩ l.length acc).run P w = .ok ⟨acc.data ++ l.toArray⟩ w
  | [], off, acc, _ => by
    show Result.ok acc w = _
    simp
  | x :: l, off, acc, h => by
    have h0 := h 0 (by simp)
    have hl : (load ⟨b, off, none⟩).run P w = .ok (.int .u8 (x.toNat : Int)) w := by
      simp only [Nat.add_zero, List.getD_cons_zero] at h0
      simp [load, Sem.run, h0]
    have ih := run_loadBytes (P := P) l (off + 1) (acc.push x) (fun j hj => by
      have := h (j + 1) (by simpa using hj)
      rw [List.getD_cons_succ, show off + (j + 1) = off + 1 + j by omega] at this; exact this)
    have hx : ((x.toNat : Int)).toNat.toUInt8 = x := by simp
    unfold Extern.Bytes.loadBytes
    simp only [List.length_cons, Sem.run_bind, hl, Result.andThen_ok, hx]
    rw [show (Addr.add ⟨b, off, none⟩ 1) = ⟨b, off + 1, none⟩ from add_none .., ih]
    congr 1
    apply ByteArray.ext
    apply Array.ext'
    simp [ByteArray.push]

theorem bytesOf_row {P : Program} {w : World} {b c : Nat} {t : TypeId} {fr : Nat × Nat} {l : List UInt8} (hb : w.heap[b]? = some (.cells (bv l) t fr)) :
    (Extern.Bytes.bytesOf (.slice (some ⟨b, 0, none⟩) l.length c)).run P w = .ok ⟨l.toArray⟩ w := by
  unfold Extern.Bytes.bytesOf
  rw [run_loadBytes l 0 ByteArray.empty (fun j hj => by rw [Nat.zero_add, cell_cells hb]; exact bv_get rfl hj)]
  congr 1
  apply ByteArray.ext
  simp [ByteArray.empty, ByteArray.emptyWithCapacity]
  rfl

/-- What bytealg.Compare says of two rows. -/
def cmpL (a b : List UInt8) : Int := Extern.BytealgCompare.cmp ⟨a.toArray⟩ ⟨b.toArray⟩

theorem run_compare {P : Program} {w : World} {x y c c' : Nat} {t t' : TypeId} {fr fr' : Nat × Nat} {a b : List UInt8} (hx : w.heap[x]? = some (.cells (bv a) t fr)) (hy : w.heap[y]? = some (.cells (bv b) t' fr')) :
    (Extern.BytealgCompare.compare #[.slice (some ⟨x, 0, none⟩) a.length c, .slice (some ⟨y, 0, none⟩) b.length c']).run P w = .ok (.int .i64 (cmpL a b)) w := by
  refine Eq.trans (b := Sem.run P (Bind.bind (Extern.Bytes.bytesOf (.slice (some ⟨x, 0, none⟩) a.length c)) fun u => Bind.bind (Extern.Bytes.bytesOf (.slice (some ⟨y, 0, none⟩) b.length c')) fun v => pure (goInt (Extern.BytealgCompare.cmp u v))) w) rfl ?_
  simp only [Sem.run_bind, bytesOf_row hx, bytesOf_row hy, Result.andThen_ok]
  rfl

theorem at_row (l : List UInt8) (i : Nat) : (⟨l.toArray⟩ : ByteArray)[i]! = l.getD i 0 := by
  rw [getElem!_def]
  by_cases h : i < l.length
  · have : (⟨l.toArray⟩ : ByteArray)[i]? = some l[i] := by
      rw [getElem?_pos _ _ (by show i < (⟨l.toArray⟩ : ByteArray).size; simpa [ByteArray.size] using h)]
      rfl
    rw [this]
    simp [List.getD_eq_getElem?_getD, h]
  · have : (⟨l.toArray⟩ : ByteArray)[i]? = none := getElem?_neg _ _ (by show ¬ i < (⟨l.toArray⟩ : ByteArray).size; simpa [ByteArray.size] using h)
    rw [this, List.getD_eq_getElem?_getD, List.getElem?_eq_none (by omega)]
    rfl

end K
end Go.Proofs.YtoopekjbikcebaaDoor
