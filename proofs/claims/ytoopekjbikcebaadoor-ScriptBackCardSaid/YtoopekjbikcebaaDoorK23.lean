/- make of a row of things of whatever kind; contents of blocks respelled. -/
import Derived.Test.YtoopekjbikcebaaDoorK16
namespace Go.Proofs.YtoopekjbikcebaaDoor
namespace K

theorem run_mkZ {P : Program} {w : World} {t e : TypeId} {k : IntKind} {n : Nat} {inf : TypeInfo} {z : Value} {L : List Value} (hu : P.underlying t = some (.slice e)) (hinf : P.info? e = some inf) (hz : inf.zero = some z) (hs : z.cells.size = inf.size) (h0 : 0 < n * inf.size) (hn : n ≤ 1000000000) (hb : inf.bytes ≤ 100000)
    (hl : L.length = n * inf.size) (hL : ∀ i, i < n * inf.size → L[i]? = some (z.cells[i % inf.size]!)) :
    (Instr.makeSlice t (.int k (n : Int)) (.int k (n : Int))).run P w = .ok (.slice (some ⟨w.heap.size, 0, none⟩) n n) (w.alloc (.cells L.toArray e (0, 0))) := by
  have w1 : IntKind.i64.wrap (n : Int) = (n : Int) := wrap_in (by simp [lo, hi]; omega)
  have c1 : ¬ ((n : Int) < 0) := by omega
  have c2 : ¬ ((inf.bytes : Int) * (n : Int) > 2 ^ 48) := by
    have h1 : inf.bytes * n ≤ 100000 * 1000000000 := Nat.mul_le_mul hb hn
    have h2 : ((inf.bytes * n : Nat) : Int) ≤ ((100000 * 1000000000 : Nat) : Int) := Int.ofNat_le.2 h1
    rw [Int.natCast_mul] at h2
    omega
  have c4 : ¬ ((n : Int) > (n : Int)) := by omega
  have hti : (typeInfo e).run P w = .ok inf w := by simp [typeInfo, program, Sem.run, hinf]
  have har : (askRoom ((n : Int).toNat * inf.bytes)).run P w = .ok () w := by
    unfold askRoom
    split <;> rfl
  have hzv : (zeroValue e).run P w = .ok z w := by simp [zeroValue, typeInfo, program, Sem.run, hinf, hz]
  have hrow : (Array.range (n * inf.size)).map (fun x => z.cells[x % z.cells.size]!) = L.toArray := by
    apply Array.ext
    · simp [hl]
    · intro i h1 h2
      have h3 := hL i (by simpa using h1)
      rw [← hs] at h3
      have h4 : L.toArray[i]? = some (z.cells[i % z.cells.size]!) := by rw [List.getElem?_toArray]; exact h3
      rw [Array.getElem?_eq_getElem h2] at h4
      rw [Option.some.inj h4]
      simp
  simp only [Instr.makeSlice, Sem.run_bind, run_underlying' hu, Result.andThen_ok, asInt, asIntOf, Sem.run_pure, hti, w1, c1, c2, c4, decide_false, Bool.or_self, Bool.false_eq_true, if_false, har, run_sizeOf' hinf]
  rw [Int.toNat_natCast, if_neg (by omega)]
  simp only [Sem.run_bind, hzv, Result.andThen_ok, Sem.run_pure]
  rw [hrow]
  simp [newRow, newObj, Sem.run]

/-- A remainder, of numbers of whatever sign. -/
theorem Eff.remI {C : Cx} {R O : List (Nat × Obj)} {Γ : Env} {op : Oper} {ty ty2 : TypeId} {x y : Operand} {k : IntKind} {a b : Int} (ho : op.op = .binOp .rem ty x y ty2) (hx : opd Γ [] x = some (.int k a)) (hy : opd Γ [] y = some (.int k b)) (hb : b ≠ 0) :
    Eff C R O Γ op Unit (fun _ => .int k (a.tmod b)) (fun _ => O) (fun _ => True) :=
  Eff.of_run fun c w hs hp => ⟨(), w, trivial, by
    simp only [execOp, ho]
    refine run_v ?_
    rw [opd_ok hs (holds_nil _) hx, opd_ok hs (holds_nil _) hy]
    simp [eqGuard, binOp, Op.intDiv, hb], hp⟩

theorem CfgA.three {C : Cx} {R O Os : List (Nat × Obj)} {Γ : Env} {ks : List KI} {ops : Array Oper} {fuel fuel' : Nat} {l : Array Bool} (i j k : Nat) (hr : Region.ready .any ops l = [i, j, k]) (hf : fuel = fuel' + 1) (h1 : CfgI C R Os O Γ ops fuel' l i ks) (h2 : CfgI C R Os O Γ ops fuel' l j ks) (h3 : CfgI C R Os O Γ ops fuel' l k ks) : CfgA C R Os O Γ ops fuel l ks := by
  subst hf
  intro a w hs hp
  refine wpAnyH_all hr (by simp) ?_
  intro q hq
  simp only [List.mem_cons, List.not_mem_nil, or_false] at hq
  rcases hq with rfl | rfl | rfl
  · exact h1 a w hs hp
  · exact h2 a w hs hp
  · exact h3 a w hs hp
end K
end Go.Proofs.YtoopekjbikcebaaDoor
