/- space: a new row of bools. -/
import Derived.Test.YtmkefcjphdaoiaaSp4
namespace Go.Proofs.Ytmkefcjphdaoiaa
open K
set_option linter.unusedVariables false

theorem run_mkB {P : Program} {w : World} {t e : TypeId} {k : IntKind} {n : Nat} {inf : TypeInfo} (hu : P.underlying t = some (.slice e)) (hinf : P.info? e = some inf) (hb : inf.bytes = 1) (hs : inf.size = 1) (hz : inf.zero = some (.bool false)) (h0 : 0 < n) (hn : n ≤ 4096) :
    (Instr.makeSlice t (.int k (n : Int)) (.int k (n : Int))).run P w = .ok (.slice (some ⟨w.heap.size, 0, none⟩) n n) (w.alloc (.cells (rb (List.replicate n false)).toArray e (0, 0))) := by
  have w1 : IntKind.i64.wrap (n : Int) = (n : Int) := wrap_in (by simp [lo, hi]; omega)
  have c1 : ¬ ((n : Int) < 0) := by omega
  have c2 : ¬ ((inf.bytes : Int) * (n : Int) > 2 ^ 48) := by rw [hb]; omega
  have c4 : ¬ ((n : Int) > (n : Int)) := by omega
  have hti : (typeInfo e).run P w = .ok inf w := by simp [typeInfo, program, Sem.run, hinf]
  have har : (askRoom ((n : Int).toNat * inf.bytes)).run P w = .ok () w := by
    unfold askRoom
    split <;> rfl
  have hzv : (zeroValue e).run P w = .ok (.bool false) w := by simp [zeroValue, typeInfo, program, Sem.run, hinf, hz]
  have hrow : (Array.range n).map (fun x => (#[Value.bool false] : Array Value)[x % 1]!) = (rb (List.replicate n false)).toArray := by
    apply Array.ext
    · simp [rb]
    · intro i h1 h2
      simp [rb, Nat.mod_one]
  simp only [Instr.makeSlice, Sem.run_bind, run_underlying' hu, Result.andThen_ok, asInt, asIntOf, Sem.run_pure, hti, w1, c1, c2, c4, decide_false, Bool.or_self, Bool.false_eq_true, if_false, har, run_sizeOf' hinf]
  rw [Int.toNat_natCast, hs, Nat.mul_one, if_neg (by omega)]
  simp only [Sem.run_bind, hzv, Result.andThen_ok, Sem.run_pure, Value.cells]
  rw [show (#[Value.bool false] : Array Value).size = 1 from rfl, hrow]
  simp [newRow, newObj, Sem.run]

end Go.Proofs.Ytmkefcjphdaoiaa
