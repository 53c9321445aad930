import Derived.Test.YtpaekplhcjleaaaGreatDoorI11
namespace Go.Proofs.YtpaekplhcjleaaaGreatDoor
namespace I
open K (one aggB run_underlying' run_sizeOf' add_none run_v cell_cells)
set_option linter.unusedVariables false

def isI : TypeDesc → Bool
  | .int _ => true
  | _ => false

section
variable {P : Program} {σ : Sg} {h : AV} {nx : Nat} {w0 w : World} {B : Fr}

theorem run_append_in {t t2 e oty : TypeId} {d2 : TypeDesc} {inf : TypeInfo} {r o n cap m : Nat} {yv : Value} {new : Array Value} {w' : World} (hu : P.underlying t = some (.slice e)) (hu2 : P.underlying t2 = some d2) (hd : isI d2 = false) (hi : P.info? e = some inf)
    (hl : (Builtin.lenOf yv).run P w = .ok m w) (hf : (Builtin.firstCells inf.size m yv).run P w = .ok new w) (hle : n + m ≤ cap) (hs : (storeCells ⟨r, o + n * inf.size, none⟩ new.toList 0).run P w = .ok () w') :
    (Builtin.append_ #[t, t2] oty #[.slice (some ⟨r, o, none⟩) n cap, yv]).run P w = .ok (.slice (some ⟨r, o, none⟩) (n + m) cap) w' := by
  have hz : (match d2 with | .int _ => true | _ => false) = false := by cases d2 <;> first | rfl | simp [isI] at hd
  simp only [Builtin.append_, Sem.run_bind, run_underlying' hu, run_underlying' hu2, run_sizeOf' hi, Result.andThen_ok, Sem.run_pure, List.getElem?_toArray, List.getElem?_cons_zero, List.getElem?_cons_succ]
  cases d2 <;> first
    | (simp [isI] at hd; done)
    | (simp [hl, hf, hle, add_none, hs])

theorem run_append_nil0 {t t2 e oty : TypeId} {d2 : TypeDesc} {inf : TypeInfo} {yv : Value} {new : Array Value} (hu : P.underlying t = some (.slice e)) (hu2 : P.underlying t2 = some d2) (hd : isI d2 = false) (hi : P.info? e = some inf)
    (hl : (Builtin.lenOf yv).run P w = .ok 0 w) (hf : (Builtin.firstCells inf.size 0 yv).run P w = .ok new w) :
    (Builtin.append_ #[t, t2] oty #[.slice none 0 0, yv]).run P w = .ok (.slice none 0 0) w := by
  simp only [Builtin.append_, Sem.run_bind, run_underlying' hu, run_underlying' hu2, run_sizeOf' hi, Result.andThen_ok, Sem.run_pure, List.getElem?_toArray, List.getElem?_cons_zero, List.getElem?_cons_succ]
  cases d2 <;> first
    | (simp [isI] at hd; done)
    | (simp [hl, hf])

/-- The capacity that is drawn. -/
def drawnCap (w : World) (need old : Nat) (e : TypeId) : Nat := (Question.appendCap need old e).cut (w.tape w.drawn (.appendCap need old e))

theorem drawnCap_ge (w : World) (need old : Nat) (e : TypeId) : need ≤ drawnCap w need old e := Nat.le_add_right _ _

theorem run_append_out {t t2 e oty : TypeId} {d2 : TypeDesc} {inf : TypeInfo} {z : Value} {base : Option Addr} {n cap m : Nat} {yv : Value} {old new : Array Value} (hu : P.underlying t = some (.slice e)) (hu2 : P.underlying t2 = some d2) (hd : isI d2 = false) (hi : P.info? e = some inf) (hz : inf.zero = some z)
    (hl : (Builtin.lenOf yv).run P w = .ok m w) (hf : ∀ w1 : World, w1.heap = w.heap → (Builtin.firstCells inf.size m yv).run P w1 = .ok new w1) (ho : ∀ w1 : World, w1.heap = w.heap → (Builtin.firstCells inf.size n (.slice base n cap)).run P w1 = .ok old w1) (hgt : ¬ n + m ≤ cap)
    (h63 : n + m ≤ 9223372036854775807) (hfit : Builtin.nextslicecap (n + m) cap * inf.bytes ≤ 281474976710656) :
    (Builtin.append_ #[t, t2] oty #[.slice base n cap, yv]).run P w = .ok (.slice (some ⟨w.heap.size, 0, none⟩) (n + m) (drawnCap w (n + m) cap e))
      ({ w with drawn := w.drawn + 1 }.alloc (.cells (old ++ new ++ Builtin.zeroCells z.cells (drawnCap w (n + m) cap e - (n + m))) e (0, 0))) := by
  have hti : ∀ w : World, (typeInfo e).run P w = .ok inf w := fun w => by simp [typeInfo, program, Sem.run, hi]
  have hzv : ∀ w : World, (zeroValue e).run P w = .ok z w := fun w => run_zeroValue (by rw [hi]; exact hz)
  have har : ∀ (k : Nat) (w : World), (askRoom k).run P w = .ok () w := fun k w => by unfold askRoom; split <;> rfl
  have c1 : ¬ (((n + m : Nat) : Int) > IntKind.i64.max ∧ (false = true ∨ inf.bytes = 0)) := by
    rw [show IntKind.i64.max = 9223372036854775807 from rfl]; omega
  have c2 : ¬ (Builtin.nextslicecap (n + m) cap * inf.bytes > 2 ^ 48) := by omega
  simp only [Builtin.append_, Sem.run_bind, run_underlying' hu, run_underlying' hu2, run_sizeOf' hi, Result.andThen_ok, Sem.run_pure, List.getElem?_toArray, List.getElem?_cons_zero, List.getElem?_cons_succ]
  cases d2 <;> first
    | (simp [isI] at hd; done)
    | (simp only [Bool.false_eq_true, if_false, hl, Result.andThen_ok, hgt, hti, Sem.run_bind]
       have c1' : ¬ (((n + m : Nat) : Int) > IntKind.i64.max ∧ (False ∨ inf.bytes = 0)) := by simpa using c1
       simp only [c1', if_false, Sem.run_bind, Result.andThen_ok, hti]
       rw [if_neg c2]
       simp only [Sem.run_bind]
       simp only [choose, Sem.run, Question.forced, Bool.false_eq_true, if_false, Result.andThen_ok, hti, har]
       rw [ho { w with drawn := w.drawn + 1 } rfl]
       simp only [Result.andThen_ok, Bool.not_false, if_true]
       rw [hf { w with drawn := w.drawn + 1 } rfl]
       simp only [Result.andThen_ok, hzv, Sem.run_bind, newRow, newObj, Sem.run, Sem.run_pure]
       rfl)

end
end I
end Go.Proofs.YtpaekplhcjleaaaGreatDoor
