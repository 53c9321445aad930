/- space: a new space. -/
import Derived.Test.YtmkefcjphdaoiaaSp9
import Derived.Test.YtmkefcjphdaoiaaSp7
import Derived.Test.YtmkefcjphdaoiaaK16
namespace Go.Proofs.Ytmkefcjphdaoiaa
open K
set_option linter.unusedVariables false

def tf (N k : Nat) : List Bool := List.replicate k true ++ List.replicate (N - k) false
theorem tf_len {N k : Nat} (h : k ≤ N) : (tf N k).length = N := by simp [tf]; omega
theorem tf_zero (N : Nat) : List.replicate N false = tf N 0 := by simp [tf]
theorem tf_all (N : Nat) : tf N N = List.replicate N true := by simp [tf]
theorem tf_set {N k : Nat} (h : k < N) : (tf N k).set k true = tf N (k + 1) := by
  unfold tf
  rw [List.set_append_right _ _ (by simp)]
  rw [show N - k = (N - (k + 1)) + 1 by omega, List.replicate_succ, List.length_replicate, Nat.sub_self, List.set_cons_zero, List.replicate_succ' (n := k), List.append_assoc]
  rfl
theorem mkB2 {P : Program} {w : World} {t e : TypeId} {k : IntKind} {n : Nat} (hu : P.underlying t = some (.slice e)) (hi : (P.info? e).map (fun i => (i.bytes, i.size, i.zero)) = some (1, 1, some (.bool false))) (h0 : 0 < n) (hn : n ≤ 4096) :
    (Instr.makeSlice t (.int k (n : Int)) (.int k (n : Int))).run P w = .ok (.slice (some ⟨w.heap.size, 0, none⟩) n n) (w.alloc (.cells (rb (List.replicate n false)).toArray e (0, 0))) := by
  obtain ⟨inf, hinf, he⟩ := Option.map_eq_some_iff.1 hi
  simp only [Prod.mk.injEq] at he
  exact run_mkB hu hinf he.1 he.2.1 he.2.2 h0 hn
theorem minI2 {C : Cx} {R O : List (Nat × Obj)} {Γ : Env} {op : Oper} {x y : Operand} {tys : Array TypeId} {k : IntKind} {a b : Int} (c : Int) (hc : (if b < a then b else a) = c) (ho : op.op = .call ⟨.builtin .min, #[x, y], tys⟩) (hx : opd Γ [] x = some (.int k a)) (hy : opd Γ [] y = some (.int k b)) : Eff C R O Γ op Unit (fun _ => .int k c) (fun _ => O) (fun _ => True) := by
  subst hc; exact Eff.minI ho hx hy

theorem K.HP.conv {w0 w : World} {M : List Nat} {R O O' : List (Nat × Obj)} (h : HP w0 M R O w) (e : O = O') : HP w0 M R O' w := by rw [← e]; exact h

set_option maxRecDepth 100000 in
theorem newC (f t : Int) (N : Nat) (w : World) (hf : I64 f) (ht : I64 t) (hlt : f < t) (hN : N = min (t - f).toNat 4096) :
    Calls Try.prog 11 #[.int .i64 f, .int .i64 t] w fun e w' => ∃ x : Nat × Nat, e = .returned (.pointer (some ⟨x.1, 0, none⟩)) ∧ ∃ R1, HP w [] R1 (spC x.1 f (x.2, N, []) (List.replicate N true)) w' := by
  unfold I64 at hf ht
  refine enter (vs := [.int .i64 f, .int .i64 t]) [] [] [] Try.func11 rfl (by kernel_rfl) (HP.start w) ?_
  refine Cfg.reg rfl [0, 1] [] (Γ' := [(0, [], .int .i64 f), (1, [], .int .i64 t)]) (nd := (fun _ => [])) (fun _ => by kernel_rfl) trivial ?_
  refine Cfg.begL rfl ?_
  refine CfgL.pure 2 [(0, false, none), (0, false, some (.agg #[.int .i64 f, .slice none 0 0]))] none (Γ' := [(9, [], .agg #[.int .i64 f, .slice none 0 0]), (8, [], .int .i64 f), (0, [], .int .i64 f), (1, [], .int .i64 t)]) (nd := (fun S => [(∀ w1, S w1 → (Instr.build 94 #[(0, .int .i64 f)]).run Try.prog w1 = .ok (.agg #[.int .i64 f, .slice none 0 0]) w1)])) (by kernel_rfl) (fun _ => by kernel_rfl) ⟨(fun _ _ => by kernel_rfl), trivial⟩ ?_
  refine CfgL.eff (o := _) rfl (by kernel_rfl) (by kernel_rfl) (Eff.box (v := .agg #[.int .i64 f, .slice none 0 0]) rfl (by kernel_rfl)) ?_
  rintro s ⟨hs, ns⟩
  refine CfgL.pure 1 [] (some [0, 1, 5]) (Γ' := [(5, [], .pointer (some ⟨s, 0, none⟩)), (0, [], .int .i64 f), (1, [], .int .i64 t)]) (nd := (fun _ => [])) (by kernel_rfl) (fun _ => by kernel_rfl) trivial ?_
  refine CfgL.done rfl ?_
  refine Cfg.reg rfl [0, 1, 5, 13] [] (Γ' := [(13, [], .bool (decide (t ≤ f))), (5, [], .pointer (some ⟨s, 0, none⟩)), (0, [], .int .i64 f), (1, [], .int .i64 t)]) (nd := (fun _ => [])) (fun _ => by kernel_rfl) trivial ?_
  refine Cfg.condF rfl (b := (decide (t ≤ f))) (by kernel_rfl) (decide_eq_false (by omega)) ?_
  refine Cfg.reg rfl [5, 6] [] (Γ' := [(6, [], .int .u64 (((t % 18446744073709551616) - (f % 18446744073709551616)) % 18446744073709551616)), (5, [], .pointer (some ⟨s, 0, none⟩))]) (nd := (fun _ => [])) (fun _ => by kernel_rfl) trivial ?_
  refine Cfg.begL rfl ?_
  refine CfgL.pure 2 [] none (Γ' := [(21, [], .int .u64 (((t % 18446744073709551616) - (f % 18446744073709551616)) % 18446744073709551616)), (20, [], .pointer (some ⟨s, 0, none⟩)), (6, [], .int .u64 (((t % 18446744073709551616) - (f % 18446744073709551616)) % 18446744073709551616)), (5, [], .pointer (some ⟨s, 0, none⟩))]) (nd := (fun _ => [])) (by kernel_rfl) (fun _ => by kernel_rfl) trivial ?_
  refine CfgL.eff (o := _) rfl (by kernel_rfl) (by kernel_rfl) (minI2 (k := .u64) (a := (((t % 18446744073709551616) - (f % 18446744073709551616)) % 18446744073709551616)) (b := 4096) (N : Int) (by split <;> omega) rfl (by kernel_rfl) (by kernel_rfl)) ?_
  rintro ⟨⟩ -
  refine CfgL.eff (o := _) rfl (by kernel_rfl) (by kernel_rfl) (Eff.makeRow (e := 4) (n := N) (cells := (rb (List.replicate N false)).toArray) (v1 := .int .u64 (N : Int)) (v2 := .int .u64 (N : Int)) rfl (by kernel_rfl) (by kernel_rfl) (fun w1 => mkB2 (P := Try.prog) (k := .u64) Try.underlying92 (by kernel_rfl) (by omega) (by omega))) ?_
  rintro b ⟨hb, nb⟩
  refine CfgL.pure 2 [] none (Γ' := [(25, [], .pointer (some ⟨s, 1, none⟩)), (24, [], .pointer (some ⟨s, 0, none⟩)), (23, [], .slice (some ⟨b, 0, none⟩) N N), (22, [], .int .u64 (N : Int)), (21, [], .int .u64 (((t % 18446744073709551616) - (f % 18446744073709551616)) % 18446744073709551616)), (20, [], .pointer (some ⟨s, 0, none⟩)), (6, [], .int .u64 (((t % 18446744073709551616) - (f % 18446744073709551616)) % 18446744073709551616)), (5, [], .pointer (some ⟨s, 0, none⟩))]) (nd := (fun _ => [])) (by kernel_rfl) (fun _ => by kernel_rfl) trivial ?_
  refine CfgL.eff (o := _) rfl (by kernel_rfl) (by kernel_rfl) (Eff.store1 (b := s) (off := 1) (v := .slice (some ⟨b, 0, none⟩) N N) rfl (by kernel_rfl) (by kernel_rfl) rfl (by kernel_rfl) 1 (cs := #[.int .i64 f, .slice none 0 0]) (e := 94) (by kernel_rfl) (by simp)) ?_
  rintro ⟨⟩ -
  refine CfgL.done rfl ?_
  refine Conv.cfg (Γ' := [(5, [], .pointer (some ⟨s, 0, none⟩))]) (Conv.mk (by kernel_rfl)) ?_
  refine Cfg.reg rfl [5, 30, 31] [(0, false, none), (0, false, none), (0, false, none), (0, false, some (.slice (some ⟨b, 0, none⟩) N N))] (Γ' := [(31, [], .int .i64 0), (30, [], .int .i64 (N : Int)), (5, [], .pointer (some ⟨s, 0, none⟩))]) (nd := (fun S => [(∀ w1, S w1 → w1.cell? ⟨s, 1, none⟩ = some (.slice (some ⟨b, 0, none⟩) N N))])) (fun _ => by kernel_rfl) ⟨(fun w1 h => h.ocell 1 rfl rfl), trivial⟩ ?_
  refine Cfg.setO (O' := [(b, .cells ((rb (tf N 0) ++ []).toArray) 4 (0, 0)), (s, .cells ((#[.int .i64 f, .slice none 0 0] : Array Value).setIfInBounds 1 (.slice (some ⟨b, 0, none⟩) N N)) 94 (0, 0))]) (congrArg (fun (xq : Array Value) => ([(b, .cells xq 4 (0, 0)), (s, .cells ((#[.int .i64 f, .slice none 0 0] : Array Value).setIfInBounds 1 (.slice (some ⟨b, 0, none⟩) N N)) 94 (0, 0))] : List (Nat × Obj))) (by rw [List.append_nil, tf_zero])) ?_
  refine Cfg.loop rfl (ι := Nat) (fun (k : Nat) => [(31, [], .int .i64 (k : Int)), (30, [], .int .i64 (N : Int)), (5, [], .pointer (some ⟨s, 0, none⟩))]) (fun (k : Nat) => [(b, .cells ((rb (tf N k) ++ []).toArray) 4 (0, 0)), (s, .cells ((#[.int .i64 f, .slice none 0 0] : Array Value).setIfInBounds 1 (.slice (some ⟨b, 0, none⟩) N N)) 94 (0, 0))]) (fun (k : Nat) => (k ≤ N)) (fun (k : Nat) => N - k) 0 ?_ (Conv.mk (by kernel_rfl)) (.cons_cons _ (.cons_cons _ .slnil)) ?_
  · exact Nat.zero_le _
  · rintro k hk
    refine Cfg.reg rfl [5, 30, 31, 32] [] (Γ' := [(32, [], .bool (decide ((k : Int) < (N : Int)))), (31, [], .int .i64 (k : Int)), (30, [], .int .i64 (N : Int)), (5, [], .pointer (some ⟨s, 0, none⟩))]) (nd := (fun _ => [])) (fun _ => by kernel_rfl) trivial ?_
    refine Cfg.cond rfl (b := (decide ((k : Int) < (N : Int)))) (by kernel_rfl) (fun c2r => ?_) (fun c2r => ?_)
    · have c2 : ((k : Int) < (N : Int)) := (of_decide_eq_true c2r)
      refine Cfg.reg rfl [5, 7, 30, 31] [] (Γ' := [(7, [], .int .i64 (k : Int)), (31, [], .int .i64 (k : Int)), (30, [], .int .i64 (N : Int)), (5, [], .pointer (some ⟨s, 0, none⟩))]) (nd := (fun _ => [])) (fun _ => by kernel_rfl) trivial ?_
      refine Cfg.begL rfl ?_
      refine CfgL.pure 6 [(0, false, none), (0, false, none), (0, false, none), (0, false, some (.slice (some ⟨b, 0, none⟩) N N))] none (Γ' := [(39, [], .pointer (some ⟨b, k, none⟩)), (38, [], .int .i64 (k : Int)), (37, [], .slice (some ⟨b, 0, none⟩) N N), (36, [], .pointer (some ⟨s, 1, none⟩)), (35, [], .pointer (some ⟨s, 0, none⟩)), (34, [], .pointer (some ⟨s, 0, none⟩)), (7, [], .int .i64 (k : Int)), (31, [], .int .i64 (k : Int)), (30, [], .int .i64 (N : Int)), (5, [], .pointer (some ⟨s, 0, none⟩))]) (nd := (fun S => [(∀ w1, S w1 → w1.cell? ⟨s, 1, none⟩ = some (.slice (some ⟨b, 0, none⟩) N N)), (0 ≤ (k : Int) ∧ (k : Int) < (N : Int))])) (by kernel_rfl) (fun _ => by kernel_rfl) ⟨(fun w1 h => h.ocell 1 rfl rfl), (by omega), trivial⟩ ?_
      refine CfgL.eff (o := _) rfl (by kernel_rfl) (by kernel_rfl) (Eff.store1 (b := b) (off := k) (v := .bool true) rfl (by kernel_rfl) (by kernel_rfl) rfl (by kernel_rfl) 0 (cs := (rb (tf N k) ++ []).toArray) (e := 4) (by kernel_rfl) (by simp only [List.size_toArray, List.length_append, rb_len, tf_len (show k ≤ N by omega)]; simp only [List.length_nil]; omega)) ?_
      rintro ⟨⟩ -
      refine CfgL.done rfl ?_
      refine Conv.cfg (Γ' := [(31, [], .int .i64 (k : Int)), (30, [], .int .i64 (N : Int)), (5, [], .pointer (some ⟨s, 0, none⟩))]) (Conv.mk (by kernel_rfl)) ?_
      refine Cfg.reg rfl [5, 30, 31] [] (Γ' := [(31, [], .int .i64 ((k : Int) + 1)), (30, [], .int .i64 (N : Int)), (5, [], .pointer (some ⟨s, 0, none⟩))]) (nd := (fun _ => [((-9223372036854775808 : Int) ≤ ((k : Int) + 1) ∧ ((k : Int) + 1) ≤ 9223372036854775807)])) (fun _ => by kernel_rfl) ⟨(by omega), trivial⟩ ?_
      refine Cfg.setO (O' := [(b, .cells ((rb (tf N (k + 1)) ++ []).toArray) 4 (0, 0)), (s, .cells ((#[.int .i64 f, .slice none 0 0] : Array Value).setIfInBounds 1 (.slice (some ⟨b, 0, none⟩) N N)) 94 (0, 0))]) (congrArg (fun (xq : Array Value) => ([(b, .cells xq 4 (0, 0)), (s, .cells ((#[.int .i64 f, .slice none 0 0] : Array Value).setIfInBounds 1 (.slice (some ⟨b, 0, none⟩) N N)) 94 (0, 0))] : List (Nat × Obj))) (by rw [rb_set _ _ (by rw [tf_len (by omega)]; omega), tf_set (by omega)])) ?_
      refine Cfg.again rfl (k + 1) (by show k + 1 ≤ N; omega) (by show N - (k + 1) < N - k; omega) (Conv.mk (by kernel_rfl)) (.cons_cons _ (.cons_cons _ .slnil))
    · have c2 : (¬ ((k : Int) < (N : Int))) := (of_decide_eq_false c2r)
      refine Cfg.reg rfl [4] [] (Γ' := [(4, [], .pointer (some ⟨s, 0, none⟩))]) (nd := (fun _ => [])) (fun _ => by kernel_rfl) trivial ?_
      refine Cfg.ret rfl (rs := [.tmp 4]) rfl [.pointer (some ⟨s, 0, none⟩)] ⟨by kernel_rfl, trivial⟩ (fun w1 hp => ?_)
      obtain rfl : k = N := by omega
      rw [tf_all] at hp
      have hl : (List.replicate k true).length = k := List.length_replicate
      refine ⟨(s, b), rfl, _, (hp.perm (List.Perm.swap _ _ _)).conv ?_⟩
      unfold spC
      rw [hl]
      rfl

set_option maxRecDepth 100000 in
theorem newE (f t : Int) (w : World) (hle : t ≤ f) :
    Calls Try.prog 11 #[.int .i64 f, .int .i64 t] w fun e w' => ∃ s : Nat, e = .returned (.pointer (some ⟨s, 0, none⟩)) ∧ ∃ R1, HP w [] R1 [(s, .cells #[.int .i64 f, .slice none 0 0] 94 (0, 0))] w' := by
  refine enter (vs := [.int .i64 f, .int .i64 t]) [] [] [] Try.func11 rfl (by kernel_rfl) (HP.start w) ?_
  refine Cfg.reg rfl [0, 1] [] (Γ' := [(0, [], .int .i64 f), (1, [], .int .i64 t)]) (nd := (fun _ => [])) (fun _ => by kernel_rfl) trivial ?_
  refine Cfg.begL rfl ?_
  refine CfgL.pure 2 [(0, false, none), (0, false, some (.agg #[.int .i64 f, .slice none 0 0]))] none (Γ' := [(9, [], .agg #[.int .i64 f, .slice none 0 0]), (8, [], .int .i64 f), (0, [], .int .i64 f), (1, [], .int .i64 t)]) (nd := (fun S => [(∀ w1, S w1 → (Instr.build 94 #[(0, .int .i64 f)]).run Try.prog w1 = .ok (.agg #[.int .i64 f, .slice none 0 0]) w1)])) (by kernel_rfl) (fun _ => by kernel_rfl) ⟨(fun _ _ => by kernel_rfl), trivial⟩ ?_
  refine CfgL.eff (o := _) rfl (by kernel_rfl) (by kernel_rfl) (Eff.box (v := .agg #[.int .i64 f, .slice none 0 0]) rfl (by kernel_rfl)) ?_
  rintro s ⟨hs, ns⟩
  refine CfgL.pure 1 [] (some [0, 1, 5]) (Γ' := [(5, [], .pointer (some ⟨s, 0, none⟩)), (0, [], .int .i64 f), (1, [], .int .i64 t)]) (nd := (fun _ => [])) (by kernel_rfl) (fun _ => by kernel_rfl) trivial ?_
  refine CfgL.done rfl ?_
  refine Cfg.reg rfl [0, 1, 5, 13] [] (Γ' := [(13, [], .bool (decide (t ≤ f))), (5, [], .pointer (some ⟨s, 0, none⟩)), (0, [], .int .i64 f), (1, [], .int .i64 t)]) (nd := (fun _ => [])) (fun _ => by kernel_rfl) trivial ?_
  refine Cfg.condT rfl (b := (decide (t ≤ f))) (by kernel_rfl) (decide_eq_true (by omega)) ?_
  refine Cfg.reg rfl [4] [] (Γ' := [(4, [], .pointer (some ⟨s, 0, none⟩))]) (nd := (fun _ => [])) (fun _ => by kernel_rfl) trivial ?_
  refine Cfg.ret rfl (rs := [.tmp 4]) rfl [.pointer (some ⟨s, 0, none⟩)] ⟨by kernel_rfl, trivial⟩ (fun w1 hp => ?_)
  exact ⟨s, rfl, _, hp⟩

end Go.Proofs.Ytmkefcjphdaoiaa
