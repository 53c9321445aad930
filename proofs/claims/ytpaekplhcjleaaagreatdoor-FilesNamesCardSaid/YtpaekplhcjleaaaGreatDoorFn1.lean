/- files: names; acts as they are told; the law FilesNames. -/
import Derived.Test.YtpaekplhcjleaaaGreatDoorSgM
import Derived.Test.YtpaekplhcjleaaaGreatDoorK12
import Derived.Laws.StructEq
namespace Go.Proofs.YtpaekplhcjleaaaGreatDoor
open K
set_option linter.unusedVariables false

/-- What is asked of the byte at place k of a file's name. -/
def okNm (s : ByteArray) (k : Nat) : Bool := decide (33 ≤ sbyte s k ∧ sbyte s k ≤ 126)
def namB (s : ByteArray) : Bool := decide (1 ≤ s.size ∧ s.size ≤ 72) && (List.range s.size).all (okNm s)
theorem nall_yes {n : Nat} {f : Nat → Bool} (h : ∀ j, j < n → f j = true) : (List.range n).all f = true := by
  simp only [List.all_eq_true, List.mem_range]; exact h
theorem nall_no {n k : Nat} {f : Nat → Bool} (hk : k < n) (h : f k = false) : (List.range n).all f = false := by
  cases hh : (List.range n).all f with
  | false => rfl
  | true =>
    have := List.all_eq_true.1 hh k (List.mem_range.2 hk)
    rw [h] at this; cases this
theorem nup {f : Nat → Bool} {k : Nat} (h : ∀ j, j < k → f j = true) (hk : f k = true) : ∀ j, j < k + 1 → f j = true := by
  intro j hj
  rcases Nat.lt_or_ge j k with h1 | h1
  · exact h j h1
  · rw [show j = k by omega]; exact hk
theorem act_eq (k : Int) (a b c : ByteArray) (w : World) : (Op.equal 25 (.agg #[.int .i64 k, .string a, .string b, .string c]) (.agg #[.int .i64 k, .string a, .string b, .string c])).run Tryz.prog w = .ok true w := by
  show (Op.equalIn (9999 + 1) 25 (.agg #[.int .i64 k, .string a, .string b, .string c]) (.agg #[.int .i64 k, .string a, .string b, .string c])).run Tryz.prog w = _
  rw [run_equalIn_struct w 9999 25 _ _ (by kernel_rfl) (by kernel_rfl)]
  rw [show (Tryz.prog.fieldsOf 25).toList = [⟨ "Kind", 3, 0, false, "", "", 0⟩, ⟨ "Name", 9, 1, false, "", "", 8⟩, ⟨ "To", 9, 2, false, "", "", 24⟩, ⟨ "Data", 9, 3, false, "", "", 40⟩] by kernel_rfl]
  have p0 : (part 3 #[.int .i64 k, .string a, .string b, .string c] 0).run Tryz.prog w = .ok (.int .i64 k) w := by
    simp only [part, isAgg, Sem.run_bind, run_underlying' Tryz.underlying3, Result.andThen_ok]; rfl
  have p1 : (part 9 #[.int .i64 k, .string a, .string b, .string c] 1).run Tryz.prog w = .ok (.string a) w := by
    simp only [part, isAgg, Sem.run_bind, run_underlying' Tryz.underlying9, Result.andThen_ok]; rfl
  have p2 : (part 9 #[.int .i64 k, .string a, .string b, .string c] 2).run Tryz.prog w = .ok (.string b) w := by
    simp only [part, isAgg, Sem.run_bind, run_underlying' Tryz.underlying9, Result.andThen_ok]; rfl
  have p3 : (part 9 #[.int .i64 k, .string a, .string b, .string c] 3).run Tryz.prog w = .ok (.string c) w := by
    simp only [part, isAgg, Sem.run_bind, run_underlying' Tryz.underlying9, Result.andThen_ok]; rfl
  have n0 : ¬ ("Kind" = "_") := by decide
  have n1 : ¬ ("Name" = "_") := by decide
  have n2 : ¬ ("To" = "_") := by decide
  have n3 : ¬ ("Data" = "_") := by decide
  simp only [Op.eqFields, ne_eq, n0, n1, n2, n3, not_false_eq_true, if_true, Sem.run_bind, p0, p1, p2, p3, Result.andThen_ok, run_equalIn_int w 9998 3 .i64 .i64 k k Tryz.underlying3, run_equalIn_string w 9998 9 a a Tryz.underlying9, run_equalIn_string w 9998 9 b b Tryz.underlying9, run_equalIn_string w 9998 9 c c Tryz.underlying9, beq_self_eq_true, Bool.not_true, Bool.false_eq_true, if_false]
  rfl
theorem awake06 {w : World} {t : TypeId} {fr : Nat × Nat} (hb : w.heap[1]? = some (.cells (roundsL.map fun z => Value.int .u32 z).toArray t fr)) : Calls Tryz.prog 4 #[] w fun e w' => e = .returned (.bool true) ∧ Ext [] w w' := I.closed_tabG (by decide) (by decide) main_ok main_run hb

set_option maxRecDepth 100000 in
theorem fNamed (s : ByteArray) (w : World) (hs : s.size ≤ maxLen) :
    Calls Tryz.prog 5 #[.string s] w fun e w' => e = .returned (.bool (namB s)) ∧ Ext [] w w' := by
  unfold maxLen at hs
  refine enter (vs := [.string s]) [] [] [] Tryz.func5 rfl (by kernel_rfl) (HP.start w) ?_
  refine Cfg.reg rfl [0] [] (Γ' := [(0, [], .string s)]) (nd := (fun _ => [])) (fun _ => by kernel_rfl) trivial ?_
  refine Cfg.reg rfl [0, 11] [] (Γ' := [(11, [], .bool ((decide ((s.size : Int) < (1 : Int))) || (decide ((s.size : Int) > (72 : Int))))), (0, [], .string s)]) (nd := (fun _ => [])) (fun _ => by kernel_rfl) trivial ?_
  refine Cfg.cond rfl (b := ((decide ((s.size : Int) < (1 : Int))) || (decide ((s.size : Int) > (72 : Int))))) (by kernel_rfl) (fun c1r => ?_) (fun c1r => ?_)
  · have c1 : (((s.size : Int) < (1 : Int)) ∨ ((s.size : Int) > (72 : Int))) := ((orT c1r).elim (fun h => Or.inl (of_decide_eq_true h)) (fun h => Or.inr (of_decide_eq_true h)))
    refine Cfg.reg rfl [2] [] (Γ' := [(2, [], .bool false)]) (nd := (fun _ => [])) (fun _ => by kernel_rfl) trivial ?_
    refine Cfg.ret rfl (rs := [.tmp 2]) rfl [.bool false] ⟨by kernel_rfl, trivial⟩ (fun w1 hp => ?_)
    exact ⟨by rw [show namB s = false by unfold namB; rw [decide_eq_false (by omega), Bool.false_and]]; rfl, hp.ext⟩
  · have c1 : ((¬ ((s.size : Int) < (1 : Int))) ∧ (¬ ((s.size : Int) > (72 : Int)))) := ⟨(of_decide_eq_false (orF1 c1r)), (of_decide_eq_false (orF2 c1r))⟩
    refine Cfg.reg rfl [0, 13, 14] [] (Γ' := [(14, [], .int .i64 0), (13, [], .int .i64 (s.size : Int)), (0, [], .string s)]) (nd := (fun _ => [])) (fun _ => by kernel_rfl) trivial ?_
    refine Cfg.loop rfl (ι := Nat) (fun (k : Nat) => [(14, [], .int .i64 (k : Int)), (13, [], .int .i64 (s.size : Int)), (0, [], .string s)]) (fun (k : Nat) => []) (fun (k : Nat) => (k ≤ s.size) ∧ (∀ j, j < k → okNm s j = true)) (fun (k : Nat) => s.size - k) 0 ?_ (Conv.mk (by kernel_rfl)) .slnil ?_
    · exact ⟨Nat.zero_le _, fun j h => absurd h (Nat.not_lt_zero j)⟩
    · rintro k ⟨hk, hall⟩
      refine Cfg.reg rfl [0, 13, 14, 15] [] (Γ' := [(15, [], .bool (decide ((k : Int) < (s.size : Int)))), (14, [], .int .i64 (k : Int)), (13, [], .int .i64 (s.size : Int)), (0, [], .string s)]) (nd := (fun _ => [])) (fun _ => by kernel_rfl) trivial ?_
      refine Cfg.cond rfl (b := (decide ((k : Int) < (s.size : Int)))) (by kernel_rfl) (fun c2r => ?_) (fun c2r => ?_)
      · have c2 : ((k : Int) < (s.size : Int)) := (of_decide_eq_true c2r)
        refine Cfg.reg rfl [0, 3, 13, 14] [] (Γ' := [(3, [], .int .i64 (k : Int)), (14, [], .int .i64 (k : Int)), (13, [], .int .i64 (s.size : Int)), (0, [], .string s)]) (nd := (fun _ => [])) (fun _ => by kernel_rfl) trivial ?_
        refine Cfg.reg rfl [0, 13, 14, 26] [] (Γ' := [(26, [], .bool ((decide ((sbyte s (k : Int)) < (33 : Int))) || (decide ((sbyte s (k : Int)) > (126 : Int))))), (14, [], .int .i64 (k : Int)), (13, [], .int .i64 (s.size : Int)), (0, [], .string s)]) (nd := (fun _ => [(0 ≤ (k : Int) ∧ (k : Int) < (s.size : Int)), ((.bool (decide ((sbyte s (k : Int)) < (33 : Int))) : Value) = .bool false → (0 ≤ (k : Int) ∧ (k : Int) < (s.size : Int)))])) (fun _ => by kernel_rfl) ⟨(by omega), (fun g0 => have q0 : (¬ ((sbyte s (k : Int)) < (33 : Int))) := (of_decide_eq_false (boolV g0)); (by omega)), trivial⟩ ?_
        refine Cfg.cond rfl (b := ((decide ((sbyte s (k : Int)) < (33 : Int))) || (decide ((sbyte s (k : Int)) > (126 : Int))))) (by kernel_rfl) (fun c3r => ?_) (fun c3r => ?_)
        · have c3 : (((sbyte s (k : Int)) < (33 : Int)) ∨ ((sbyte s (k : Int)) > (126 : Int))) := ((orT c3r).elim (fun h => Or.inl (of_decide_eq_true h)) (fun h => Or.inr (of_decide_eq_true h)))
          refine Cfg.reg rfl [2] [] (Γ' := [(2, [], .bool false)]) (nd := (fun _ => [])) (fun _ => by kernel_rfl) trivial ?_
          refine Cfg.ret rfl (rs := [.tmp 2]) rfl [.bool false] ⟨by kernel_rfl, trivial⟩ (fun w1 hp => ?_)
          have hok : okNm s k = false := decide_eq_false (by omega)
          exact ⟨by rw [show namB s = false by unfold namB; rw [nall_no (by omega) hok, Bool.and_false]]; rfl, hp.ext⟩
        · have c3 : ((¬ ((sbyte s (k : Int)) < (33 : Int))) ∧ (¬ ((sbyte s (k : Int)) > (126 : Int)))) := ⟨(of_decide_eq_false (orF1 c3r)), (of_decide_eq_false (orF2 c3r))⟩
          refine Cfg.reg rfl [0, 13, 14] [] (Γ' := [(14, [], .int .i64 ((k : Int) + 1)), (13, [], .int .i64 (s.size : Int)), (0, [], .string s)]) (nd := (fun _ => [((-9223372036854775808 : Int) ≤ ((k : Int) + 1) ∧ ((k : Int) + 1) ≤ 9223372036854775807)])) (fun _ => by kernel_rfl) ⟨(by omega), trivial⟩ ?_
          have hok : okNm s k = true := decide_eq_true (by omega)
          refine Cfg.again rfl (k + 1) ⟨by omega, nup hall hok⟩ (by show s.size - (k + 1) < s.size - k; omega) (Conv.mk (by kernel_rfl)) .slnil
      · have c2 : (¬ ((k : Int) < (s.size : Int))) := (of_decide_eq_false c2r)
        refine Cfg.reg rfl [2] [] (Γ' := [(2, [], .bool true)]) (nd := (fun _ => [])) (fun _ => by kernel_rfl) trivial ?_
        refine Cfg.ret rfl (rs := [.tmp 2]) rfl [.bool true] ⟨by kernel_rfl, trivial⟩ (fun w1 hp => ?_)
        exact ⟨by rw [show namB s = true by rw [show k = s.size by omega] at hall; unfold namB; rw [decide_eq_true (by omega), nall_yes hall]; rfl]; rfl, hp.ext⟩

set_option maxRecDepth 100000 in
theorem rNamed6 (s : ByteArray) (w : World) (hs : s.size ≤ maxLen) :
    Calls Tryz.prog 6 #[.string s] w fun e w' => e = .returned (.bool (namB s)) ∧ Ext [] w w' := by
  unfold maxLen at hs
  refine enter (vs := [.string s]) [] [] [] Tryz.func6 rfl (by kernel_rfl) (HP.start w) ?_
  refine Cfg.reg rfl [0] [] (Γ' := [(0, [], .string s)]) (nd := (fun _ => [])) (fun _ => by kernel_rfl) trivial ?_
  refine Cfg.reg rfl [0, 11] [] (Γ' := [(11, [], .bool ((decide ((s.size : Int) < (1 : Int))) || (decide ((s.size : Int) > (72 : Int))))), (0, [], .string s)]) (nd := (fun _ => [])) (fun _ => by kernel_rfl) trivial ?_
  refine Cfg.cond rfl (b := ((decide ((s.size : Int) < (1 : Int))) || (decide ((s.size : Int) > (72 : Int))))) (by kernel_rfl) (fun c1r => ?_) (fun c1r => ?_)
  · have c1 : (((s.size : Int) < (1 : Int)) ∨ ((s.size : Int) > (72 : Int))) := ((orT c1r).elim (fun h => Or.inl (of_decide_eq_true h)) (fun h => Or.inr (of_decide_eq_true h)))
    refine Cfg.reg rfl [2] [] (Γ' := [(2, [], .bool false)]) (nd := (fun _ => [])) (fun _ => by kernel_rfl) trivial ?_
    refine Cfg.ret rfl (rs := [.tmp 2]) rfl [.bool false] ⟨by kernel_rfl, trivial⟩ (fun w1 hp => ?_)
    exact ⟨by rw [show namB s = false by unfold namB; rw [decide_eq_false (by omega), Bool.false_and]]; rfl, hp.ext⟩
  · have c1 : ((¬ ((s.size : Int) < (1 : Int))) ∧ (¬ ((s.size : Int) > (72 : Int)))) := ⟨(of_decide_eq_false (orF1 c1r)), (of_decide_eq_false (orF2 c1r))⟩
    refine Cfg.reg rfl [0, 3] [] (Γ' := [(3, [], .int .i64 0), (0, [], .string s)]) (nd := (fun _ => [])) (fun _ => by kernel_rfl) trivial ?_
    refine Cfg.loop rfl (ι := Nat) (fun (k : Nat) => [(3, [], .int .i64 (k : Int)), (0, [], .string s)]) (fun (k : Nat) => []) (fun (k : Nat) => (k ≤ s.size) ∧ (∀ j, j < k → okNm s j = true)) (fun (k : Nat) => s.size - k) 0 ?_ (Conv.mk (by kernel_rfl)) .slnil ?_
    · exact ⟨Nat.zero_le _, fun j h => absurd h (Nat.not_lt_zero j)⟩
    · rintro k ⟨hk, hall⟩
      refine Cfg.reg rfl [0, 3, 15] [] (Γ' := [(15, [], .bool (decide ((k : Int) < (s.size : Int)))), (3, [], .int .i64 (k : Int)), (0, [], .string s)]) (nd := (fun _ => [])) (fun _ => by kernel_rfl) trivial ?_
      refine Cfg.cond rfl (b := (decide ((k : Int) < (s.size : Int)))) (by kernel_rfl) (fun c2r => ?_) (fun c2r => ?_)
      · have c2 : ((k : Int) < (s.size : Int)) := (of_decide_eq_true c2r)
        refine Cfg.reg rfl [0, 3, 27] [] (Γ' := [(27, [], .bool ((decide ((sbyte s (k : Int)) < (33 : Int))) || (decide ((sbyte s (k : Int)) > (126 : Int))))), (3, [], .int .i64 (k : Int)), (0, [], .string s)]) (nd := (fun _ => [(0 ≤ (k : Int) ∧ (k : Int) < (s.size : Int)), ((.bool (decide ((sbyte s (k : Int)) < (33 : Int))) : Value) = .bool false → (0 ≤ (k : Int) ∧ (k : Int) < (s.size : Int)))])) (fun _ => by kernel_rfl) ⟨(by omega), (fun g0 => have q0 : (¬ ((sbyte s (k : Int)) < (33 : Int))) := (of_decide_eq_false (boolV g0)); (by omega)), trivial⟩ ?_
        refine Cfg.cond rfl (b := ((decide ((sbyte s (k : Int)) < (33 : Int))) || (decide ((sbyte s (k : Int)) > (126 : Int))))) (by kernel_rfl) (fun c3r => ?_) (fun c3r => ?_)
        · have c3 : (((sbyte s (k : Int)) < (33 : Int)) ∨ ((sbyte s (k : Int)) > (126 : Int))) := ((orT c3r).elim (fun h => Or.inl (of_decide_eq_true h)) (fun h => Or.inr (of_decide_eq_true h)))
          refine Cfg.reg rfl [2] [] (Γ' := [(2, [], .bool false)]) (nd := (fun _ => [])) (fun _ => by kernel_rfl) trivial ?_
          refine Cfg.ret rfl (rs := [.tmp 2]) rfl [.bool false] ⟨by kernel_rfl, trivial⟩ (fun w1 hp => ?_)
          have hok : okNm s k = false := decide_eq_false (by omega)
          exact ⟨by rw [show namB s = false by unfold namB; rw [nall_no (by omega) hok, Bool.and_false]]; rfl, hp.ext⟩
        · have c3 : ((¬ ((sbyte s (k : Int)) < (33 : Int))) ∧ (¬ ((sbyte s (k : Int)) > (126 : Int)))) := ⟨(of_decide_eq_false (orF1 c3r)), (of_decide_eq_false (orF2 c3r))⟩
          refine Cfg.reg rfl [0, 3] [] (Γ' := [(3, [], .int .i64 ((k : Int) + 1)), (0, [], .string s)]) (nd := (fun _ => [((-9223372036854775808 : Int) ≤ ((k : Int) + 1) ∧ ((k : Int) + 1) ≤ 9223372036854775807)])) (fun _ => by kernel_rfl) ⟨(by omega), trivial⟩ ?_
          have hok : okNm s k = true := decide_eq_true (by omega)
          refine Cfg.again rfl (k + 1) ⟨by omega, nup hall hok⟩ (by show s.size - (k + 1) < s.size - k; omega) (Conv.mk (by kernel_rfl)) .slnil
      · have c2 : (¬ ((k : Int) < (s.size : Int))) := (of_decide_eq_false c2r)
        refine Cfg.reg rfl [2] [] (Γ' := [(2, [], .bool true)]) (nd := (fun _ => [])) (fun _ => by kernel_rfl) trivial ?_
        refine Cfg.ret rfl (rs := [.tmp 2]) rfl [.bool true] ⟨by kernel_rfl, trivial⟩ (fun w1 hp => ?_)
        exact ⟨by rw [show namB s = true by rw [show k = s.size by omega] at hall; unfold namB; rw [decide_eq_true (by omega), nall_yes hall]; rfl]; rfl, hp.ext⟩

set_option maxRecDepth 100000 in
theorem fPut (s t : ByteArray) (w : World) :
    Calls Tryz.prog 7 #[.string s, .string t] w fun e w' => e = .returned (.agg #[.int .i64 1, .string s, .string ByteArray.empty, .string t]) ∧ Ext [] w w' := by
  refine enter (vs := [.string s, .string t]) [] [] [] Tryz.func7 rfl (by kernel_rfl) (HP.start w) ?_
  refine Cfg.begL rfl ?_
  refine CfgL.eff (o := _) rfl (by kernel_rfl) (by kernel_rfl) (Eff.alloc (z := (.agg #[.int .i64 0, .string ByteArray.empty, .string ByteArray.empty, .string ByteArray.empty])) rfl (by kernel_rfl)) ?_
  rintro b1 ⟨hb1, nb1⟩
  refine CfgL.done rfl ?_
  refine Cfg.begL rfl ?_
  refine CfgL.pure 3 [(0, false, none), (0, false, none), (0, false, some (.agg #[.int .i64 1, .string s, .string ByteArray.empty, .string t]))] none (Γ' := [(7, [], .agg #[.int .i64 1, .string s, .string ByteArray.empty, .string t]), (6, [], .string t), (5, [], .string s), (4, [], .pointer (some ⟨b1, 0, none⟩)), (0, [], .string s), (1, [], .string t)]) (nd := (fun S => [(∀ w1, S w1 → (Instr.build 25 #[(0, .int .i64 1), (1, .string s), (3, .string t)]).run Tryz.prog w1 = .ok (.agg #[.int .i64 1, .string s, .string ByteArray.empty, .string t]) w1)])) (by kernel_rfl) (fun _ => by kernel_rfl) ⟨(fun _ _ => by kernel_rfl), trivial⟩ ?_
  refine CfgL.eff (o := _) rfl (by kernel_rfl) (by kernel_rfl) (Eff.storeN (b := b1) (off := 0) (vs := #[.int .i64 1, .string s, .string ByteArray.empty, .string t]) (n := 4) rfl (by kernel_rfl) (by kernel_rfl) (by kernel_rfl) rfl (by simp [K.one]) 0 (cs := #[.int .i64 0, .string ByteArray.empty, .string ByteArray.empty, .string ByteArray.empty]) (e := 25) (by kernel_rfl) (by simp)) ?_
  rintro ⟨⟩ -
  refine CfgL.setO (O' := [(b1, .cells #[.int .i64 1, .string s, .string ByteArray.empty, .string t] 25 (0, 0))]) (congrArg (fun (xq : Array Value) => ([(b1, .cells xq 25 (0, 0))] : List (Nat × Obj))) (rfl)) ?_
  refine CfgL.done rfl ?_
  refine Conv.cfg (Γ' := [(4, [], .pointer (some ⟨b1, 0, none⟩))]) (Conv.mk (by kernel_rfl)) ?_
  refine Cfg.ret rfl (rs := [.cell 4 25]) rfl [.agg #[.int .i64 1, .string s, .string ByteArray.empty, .string t]] ⟨⟨_, by kernel_rfl, (fun w1 h => h.oload 0 rfl Tryz.underlying25 rfl (n := 4) (by kernel_rfl) rfl)⟩, trivial⟩ (fun w1 hp => ?_)
  exact ⟨rfl, hp.ext⟩

set_option maxRecDepth 100000 in
theorem fDelete (s : ByteArray) (w : World) :
    Calls Tryz.prog 8 #[.string s] w fun e w' => e = .returned (.agg #[.int .i64 2, .string s, .string ByteArray.empty, .string ByteArray.empty]) ∧ Ext [] w w' := by
  refine enter (vs := [.string s]) [] [] [] Tryz.func8 rfl (by kernel_rfl) (HP.start w) ?_
  refine Cfg.begL rfl ?_
  refine CfgL.eff (o := _) rfl (by kernel_rfl) (by kernel_rfl) (Eff.alloc (z := (.agg #[.int .i64 0, .string ByteArray.empty, .string ByteArray.empty, .string ByteArray.empty])) rfl (by kernel_rfl)) ?_
  rintro b1 ⟨hb1, nb1⟩
  refine CfgL.done rfl ?_
  refine Cfg.begL rfl ?_
  refine CfgL.pure 2 [(0, false, none), (0, false, some (.agg #[.int .i64 2, .string s, .string ByteArray.empty, .string ByteArray.empty]))] none (Γ' := [(4, [], .agg #[.int .i64 2, .string s, .string ByteArray.empty, .string ByteArray.empty]), (3, [], .string s), (2, [], .pointer (some ⟨b1, 0, none⟩)), (0, [], .string s)]) (nd := (fun S => [(∀ w1, S w1 → (Instr.build 25 #[(0, .int .i64 2), (1, .string s)]).run Tryz.prog w1 = .ok (.agg #[.int .i64 2, .string s, .string ByteArray.empty, .string ByteArray.empty]) w1)])) (by kernel_rfl) (fun _ => by kernel_rfl) ⟨(fun _ _ => by kernel_rfl), trivial⟩ ?_
  refine CfgL.eff (o := _) rfl (by kernel_rfl) (by kernel_rfl) (Eff.storeN (b := b1) (off := 0) (vs := #[.int .i64 2, .string s, .string ByteArray.empty, .string ByteArray.empty]) (n := 4) rfl (by kernel_rfl) (by kernel_rfl) (by kernel_rfl) rfl (by simp [K.one]) 0 (cs := #[.int .i64 0, .string ByteArray.empty, .string ByteArray.empty, .string ByteArray.empty]) (e := 25) (by kernel_rfl) (by simp)) ?_
  rintro ⟨⟩ -
  refine CfgL.setO (O' := [(b1, .cells #[.int .i64 2, .string s, .string ByteArray.empty, .string ByteArray.empty] 25 (0, 0))]) (congrArg (fun (xq : Array Value) => ([(b1, .cells xq 25 (0, 0))] : List (Nat × Obj))) (rfl)) ?_
  refine CfgL.done rfl ?_
  refine Conv.cfg (Γ' := [(2, [], .pointer (some ⟨b1, 0, none⟩))]) (Conv.mk (by kernel_rfl)) ?_
  refine Cfg.ret rfl (rs := [.cell 2 25]) rfl [.agg #[.int .i64 2, .string s, .string ByteArray.empty, .string ByteArray.empty]] ⟨⟨_, by kernel_rfl, (fun w1 h => h.oload 0 rfl Tryz.underlying25 rfl (n := 4) (by kernel_rfl) rfl)⟩, trivial⟩ (fun w1 hp => ?_)
  exact ⟨rfl, hp.ext⟩

set_option maxRecDepth 100000 in
theorem fRename (s t : ByteArray) (w : World) :
    Calls Tryz.prog 9 #[.string s, .string t] w fun e w' => e = .returned (.agg #[.int .i64 3, .string s, .string t, .string ByteArray.empty]) ∧ Ext [] w w' := by
  refine enter (vs := [.string s, .string t]) [] [] [] Tryz.func9 rfl (by kernel_rfl) (HP.start w) ?_
  refine Cfg.begL rfl ?_
  refine CfgL.eff (o := _) rfl (by kernel_rfl) (by kernel_rfl) (Eff.alloc (z := (.agg #[.int .i64 0, .string ByteArray.empty, .string ByteArray.empty, .string ByteArray.empty])) rfl (by kernel_rfl)) ?_
  rintro b1 ⟨hb1, nb1⟩
  refine CfgL.done rfl ?_
  refine Cfg.begL rfl ?_
  refine CfgL.pure 3 [(0, false, none), (0, false, none), (0, false, some (.agg #[.int .i64 3, .string s, .string t, .string ByteArray.empty]))] none (Γ' := [(7, [], .agg #[.int .i64 3, .string s, .string t, .string ByteArray.empty]), (6, [], .string t), (5, [], .string s), (4, [], .pointer (some ⟨b1, 0, none⟩)), (0, [], .string s), (1, [], .string t)]) (nd := (fun S => [(∀ w1, S w1 → (Instr.build 25 #[(0, .int .i64 3), (1, .string s), (2, .string t)]).run Tryz.prog w1 = .ok (.agg #[.int .i64 3, .string s, .string t, .string ByteArray.empty]) w1)])) (by kernel_rfl) (fun _ => by kernel_rfl) ⟨(fun _ _ => by kernel_rfl), trivial⟩ ?_
  refine CfgL.eff (o := _) rfl (by kernel_rfl) (by kernel_rfl) (Eff.storeN (b := b1) (off := 0) (vs := #[.int .i64 3, .string s, .string t, .string ByteArray.empty]) (n := 4) rfl (by kernel_rfl) (by kernel_rfl) (by kernel_rfl) rfl (by simp [K.one]) 0 (cs := #[.int .i64 0, .string ByteArray.empty, .string ByteArray.empty, .string ByteArray.empty]) (e := 25) (by kernel_rfl) (by simp)) ?_
  rintro ⟨⟩ -
  refine CfgL.setO (O' := [(b1, .cells #[.int .i64 3, .string s, .string t, .string ByteArray.empty] 25 (0, 0))]) (congrArg (fun (xq : Array Value) => ([(b1, .cells xq 25 (0, 0))] : List (Nat × Obj))) (rfl)) ?_
  refine CfgL.done rfl ?_
  refine Conv.cfg (Γ' := [(4, [], .pointer (some ⟨b1, 0, none⟩))]) (Conv.mk (by kernel_rfl)) ?_
  refine Cfg.ret rfl (rs := [.cell 4 25]) rfl [.agg #[.int .i64 3, .string s, .string t, .string ByteArray.empty]] ⟨⟨_, by kernel_rfl, (fun w1 h => h.oload 0 rfl Tryz.underlying25 rfl (n := 4) (by kernel_rfl) rfl)⟩, trivial⟩ (fun w1 hp => ?_)
  exact ⟨rfl, hp.ext⟩

set_option maxRecDepth 100000 in
theorem filesNamesWalk (s t : ByteArray) (tt : TypeId) (fr : Nat × Nat) (w : World) (hs : s.size ≤ maxLen) (ht : t.size ≤ maxLen) (hT : Has w [(1, .cells (roundsL.map fun z => Value.int .u32 z).toArray tt fr)]) :
    Calls Tryz.prog 3 #[.string s, .string t] w fun e w' => e = .returned (.bool true) ∧ Ext [] w w' := by
  refine enter (vs := [.string s, .string t]) [] [(1, .cells (roundsL.map fun z => Value.int .u32 z).toArray tt fr)] [] Tryz.func3 rfl (by kernel_rfl) (HP.ofHas hT) ?_
  refine Cfg.reg rfl [0, 1] [] (Γ' := [(0, [], .string s), (1, [], .string t)]) (nd := (fun _ => [])) (fun _ => by kernel_rfl) trivial ?_
  refine Cfg.begL rfl ?_
  refine CfgL.eff (o := _) rfl (by kernel_rfl) (by kernel_rfl) (Eff.callA (vs := []) (.bool true) rfl Tryz.func4 rfl rfl (by kernel_rfl) (fun w1 h => awake06 (h.ro (1, _) (List.mem_cons_self ..)))) ?_
  rintro ⟨⟩ -
  refine CfgL.pure 1 [] (some [0, 1, 6]) (Γ' := [(6, [], .bool false), (0, [], .string s), (1, [], .string t)]) (nd := (fun _ => [])) (by kernel_rfl) (fun _ => by kernel_rfl) trivial ?_
  refine CfgL.done rfl ?_
  refine Cfg.condF rfl (b := false) (by kernel_rfl) rfl ?_
  refine Cfg.reg rfl [0, 1, 14] [] (Γ' := [(14, [], .bool ((decide ((s.size : Int) > (200 : Int))) || (decide ((t.size : Int) > (200 : Int))))), (0, [], .string s), (1, [], .string t)]) (nd := (fun _ => [])) (fun _ => by kernel_rfl) trivial ?_
  refine Cfg.cond rfl (b := ((decide ((s.size : Int) > (200 : Int))) || (decide ((t.size : Int) > (200 : Int))))) (by kernel_rfl) (fun c2r => ?_) (fun c2r => ?_)
  · have c2 : (((s.size : Int) > (200 : Int)) ∨ ((t.size : Int) > (200 : Int))) := ((orT c2r).elim (fun h => Or.inl (of_decide_eq_true h)) (fun h => Or.inr (of_decide_eq_true h)))
    refine Cfg.reg rfl [4] [] (Γ' := [(4, [], .bool true)]) (nd := (fun _ => [])) (fun _ => by kernel_rfl) trivial ?_
    refine Cfg.ret rfl (rs := [.tmp 4]) rfl [.bool true] ⟨by kernel_rfl, trivial⟩ (fun w1 hp => ?_)
    exact ⟨by simp [resOf], hp.ext⟩
  · have c2 : ((¬ ((s.size : Int) > (200 : Int))) ∧ (¬ ((t.size : Int) > (200 : Int)))) := ⟨(of_decide_eq_false (orF1 c2r)), (of_decide_eq_false (orF2 c2r))⟩
    refine Cfg.begL rfl ?_
    refine CfgL.pure 1 [] none (Γ' := [(15, [], .string s), (14, [], .bool ((decide ((s.size : Int) > (200 : Int))) || (decide ((t.size : Int) > (200 : Int))))), (0, [], .string s), (1, [], .string t)]) (nd := (fun _ => [])) (by kernel_rfl) (fun _ => by kernel_rfl) trivial ?_
    refine CfgL.eff (o := _) rfl (by kernel_rfl) (by kernel_rfl) (Eff.callA (vs := [.string s]) (.bool (namB s)) rfl Tryz.func5 rfl rfl (by kernel_rfl) (fun w1 _ => fNamed s w1 hs)) ?_
    rintro ⟨⟩ -
    refine CfgL.pure 1 [] none (Γ' := [(17, [], .string s), (16, [], .bool (namB s)), (15, [], .string s), (14, [], .bool ((decide ((s.size : Int) > (200 : Int))) || (decide ((t.size : Int) > (200 : Int))))), (0, [], .string s), (1, [], .string t)]) (nd := (fun _ => [])) (by kernel_rfl) (fun _ => by kernel_rfl) trivial ?_
    refine CfgL.eff (o := _) rfl (by kernel_rfl) (by kernel_rfl) (Eff.callA (vs := [.string s]) (.bool (namB s)) rfl Tryz.func6 rfl rfl (by kernel_rfl) (fun w1 _ => rNamed6 s w1 hs)) ?_
    rintro ⟨⟩ -
    refine CfgL.pure 2 [] none (Γ' := [(20, [], .bool ((namB s) == (namB s))), (19, [], .bool ((namB s) == (namB s))), (18, [], .bool (namB s)), (17, [], .string s), (16, [], .bool (namB s)), (15, [], .string s), (14, [], .bool ((decide ((s.size : Int) > (200 : Int))) || (decide ((t.size : Int) > (200 : Int))))), (0, [], .string s), (1, [], .string t)]) (nd := (fun _ => [])) (by kernel_rfl) (fun _ => by kernel_rfl) trivial ?_
    refine CfgL.known 20 (b := ((namB s) == (namB s))) (by kernel_rfl) true (beq_self_eq_true _) ?_
    refine CfgL.pure 2 [(1, false, none), (1, false, none)] none (Γ' := [(22, [], .string t), (21, [], .string s), (20, [], .bool true), (19, [], .bool ((namB s) == (namB s))), (18, [], .bool (namB s)), (17, [], .string s), (16, [], .bool (namB s)), (15, [], .string s), (14, [], .bool ((decide ((s.size : Int) > (200 : Int))) || (decide ((t.size : Int) > (200 : Int))))), (0, [], .string s), (1, [], .string t)]) (nd := (fun _ => [((.bool true : Value) = .bool true), ((.bool true : Value) = .bool true)])) (by kernel_rfl) (fun _ => by kernel_rfl) ⟨rfl, rfl, trivial⟩ ?_
    refine CfgL.eff (o := _) rfl (by kernel_rfl) (by kernel_rfl) (Eff.callA (vs := [.string s, .string t]) (.agg #[.int .i64 1, .string s, .string ByteArray.empty, .string t]) rfl Tryz.func7 rfl rfl (by kernel_rfl) (fun w1 _ => fPut s t w1)) ?_
    rintro ⟨⟩ -
    refine CfgL.pure 7 [(1, false, none), (1, false, none), (1, false, some (.agg #[.int .i64 1, .string s, .string ByteArray.empty, .string t])), (1, false, some (.bool true)), (0, false, none), (0, false, none), (1, false, none)] none (Γ' := [(30, [], .string s), (29, [], .bool true), (28, [], .bool true), (27, [], .bool true), (26, [], .agg #[.int .i64 1, .string s, .string ByteArray.empty, .string t]), (25, [], .string t), (24, [], .string s), (23, [], .agg #[.int .i64 1, .string s, .string ByteArray.empty, .string t]), (22, [], .string t), (21, [], .string s), (20, [], .bool true), (19, [], .bool ((namB s) == (namB s))), (18, [], .bool (namB s)), (17, [], .string s), (16, [], .bool (namB s)), (15, [], .string s), (14, [], .bool ((decide ((s.size : Int) > (200 : Int))) || (decide ((t.size : Int) > (200 : Int))))), (0, [], .string s), (1, [], .string t)]) (nd := (fun S => [((.bool true : Value) = .bool true), ((.bool true : Value) = .bool true), ((.bool true : Value) = .bool true), (∀ w1, S w1 → (Instr.build 25 #[(0, .int .i64 1), (1, .string s), (3, .string t)]).run Tryz.prog w1 = .ok (.agg #[.int .i64 1, .string s, .string ByteArray.empty, .string t]) w1), ((.bool true : Value) = .bool true), (∀ w1, S w1 → (Op.equal 25 (.agg #[.int .i64 1, .string s, .string ByteArray.empty, .string t]) (.agg #[.int .i64 1, .string s, .string ByteArray.empty, .string t])).run Tryz.prog w1 = .ok true w1), ((.bool true : Value) = .bool true)])) (by kernel_rfl) (fun _ => by kernel_rfl) ⟨rfl, rfl, rfl, (fun _ _ => by kernel_rfl), rfl, (fun w1 _ => act_eq 1 s ByteArray.empty t w1), rfl, trivial⟩ ?_
    refine CfgL.eff (o := _) rfl (by kernel_rfl) (by kernel_rfl) (Eff.callA (vs := [.string s]) (.agg #[.int .i64 2, .string s, .string ByteArray.empty, .string ByteArray.empty]) rfl Tryz.func8 rfl rfl (by kernel_rfl) (fun w1 _ => fDelete s w1)) ?_
    rintro ⟨⟩ -
    refine CfgL.pure 7 [(1, false, none), (1, false, some (.agg #[.int .i64 2, .string s, .string ByteArray.empty, .string ByteArray.empty])), (1, false, some (.bool true)), (0, false, none), (0, false, none), (1, false, none), (1, false, none)] none (Γ' := [(38, [], .string t), (37, [], .string s), (36, [], .bool true), (35, [], .bool true), (34, [], .bool true), (33, [], .agg #[.int .i64 2, .string s, .string ByteArray.empty, .string ByteArray.empty]), (32, [], .string s), (31, [], .agg #[.int .i64 2, .string s, .string ByteArray.empty, .string ByteArray.empty]), (30, [], .string s), (29, [], .bool true), (28, [], .bool true), (27, [], .bool true), (26, [], .agg #[.int .i64 1, .string s, .string ByteArray.empty, .string t]), (25, [], .string t), (24, [], .string s), (23, [], .agg #[.int .i64 1, .string s, .string ByteArray.empty, .string t]), (22, [], .string t), (21, [], .string s), (20, [], .bool true), (19, [], .bool ((namB s) == (namB s))), (18, [], .bool (namB s)), (17, [], .string s), (16, [], .bool (namB s)), (15, [], .string s), (14, [], .bool ((decide ((s.size : Int) > (200 : Int))) || (decide ((t.size : Int) > (200 : Int))))), (0, [], .string s), (1, [], .string t)]) (nd := (fun S => [((.bool true : Value) = .bool true), ((.bool true : Value) = .bool true), (∀ w1, S w1 → (Instr.build 25 #[(0, .int .i64 2), (1, .string s)]).run Tryz.prog w1 = .ok (.agg #[.int .i64 2, .string s, .string ByteArray.empty, .string ByteArray.empty]) w1), ((.bool true : Value) = .bool true), (∀ w1, S w1 → (Op.equal 25 (.agg #[.int .i64 2, .string s, .string ByteArray.empty, .string ByteArray.empty]) (.agg #[.int .i64 2, .string s, .string ByteArray.empty, .string ByteArray.empty])).run Tryz.prog w1 = .ok true w1), ((.bool true : Value) = .bool true), ((.bool true : Value) = .bool true)])) (by kernel_rfl) (fun _ => by kernel_rfl) ⟨rfl, rfl, (fun _ _ => by kernel_rfl), rfl, (fun w1 _ => act_eq 2 s ByteArray.empty ByteArray.empty w1), rfl, rfl, trivial⟩ ?_
    refine CfgL.eff (o := _) rfl (by kernel_rfl) (by kernel_rfl) (Eff.callA (vs := [.string s, .string t]) (.agg #[.int .i64 3, .string s, .string t, .string ByteArray.empty]) rfl Tryz.func9 rfl rfl (by kernel_rfl) (fun w1 _ => fRename s t w1)) ?_
    rintro ⟨⟩ -
    refine CfgL.pure 6 [(1, false, none), (1, false, none), (1, false, some (.agg #[.int .i64 3, .string s, .string t, .string ByteArray.empty])), (1, false, some (.bool true))] (some [4]) (Γ' := [(4, [], .bool true)]) (nd := (fun S => [((.bool true : Value) = .bool true), ((.bool true : Value) = .bool true), ((.bool true : Value) = .bool true), (∀ w1, S w1 → (Instr.build 25 #[(0, .int .i64 3), (1, .string s), (2, .string t)]).run Tryz.prog w1 = .ok (.agg #[.int .i64 3, .string s, .string t, .string ByteArray.empty]) w1), ((.bool true : Value) = .bool true), (∀ w1, S w1 → (Op.equal 25 (.agg #[.int .i64 3, .string s, .string t, .string ByteArray.empty]) (.agg #[.int .i64 3, .string s, .string t, .string ByteArray.empty])).run Tryz.prog w1 = .ok true w1)])) (by kernel_rfl) (fun _ => by kernel_rfl) ⟨rfl, rfl, rfl, (fun _ _ => by kernel_rfl), rfl, (fun w1 _ => act_eq 3 s t ByteArray.empty w1), trivial⟩ ?_
    refine CfgL.done rfl ?_
    refine Cfg.ret rfl (rs := [.tmp 4]) rfl [.bool true] ⟨by kernel_rfl, trivial⟩ (fun w1 hp => ?_)
    exact ⟨by simp [resOf], hp.ext⟩

end Go.Proofs.YtpaekplhcjleaaaGreatDoor
