/- space: the place of a sector. -/
import Derived.Test.YtmkefcjphdaoiaaSp1
namespace Go.Proofs.Ytmkefcjphdaoiaa
open K
set_option linter.unusedVariables false

/-- A space's blocks: the struct, the row. -/
def spO (s : Nat) (f : Int) (o : K.Own) (fr : List Bool) : List (Nat × Obj) := (s, .cells #[.int .i64 f, .slice (Own.a o) fr.length (Own.c o)] 94 (0, 0)) :: Own.o 4 (rb fr) o
def inP (f : Int) (n : Nat) (p : Int) : Bool := decide (f ≤ p ∧ p < f + n)
def I64 (x : Int) : Prop := -9223372036854775808 ≤ x ∧ x ≤ 9223372036854775807

set_option maxRecDepth 100000 in
theorem placeN (p : Int) (w : World) :
    Calls Try.prog 55 #[.pointer none, .int .i64 p] w fun e w' => e = .returned (.tuple #[.int .i64 0, .bool false]) ∧ Ext [] w w' := by
  refine enter (vs := [.pointer none, .int .i64 p]) [] [] [] Try.func55 rfl (by kernel_rfl) (HP.start w) ?_
  refine Cfg.reg rfl [0, 1] [] (Γ' := [(0, [], .pointer none), (1, [], .int .i64 p)]) (nd := (fun _ => [])) (fun _ => by kernel_rfl) trivial ?_
  refine Cfg.regD rfl (by kernel_rfl) [0, 1, 32] [(0, false, none), (0, false, none), (0, false, none), (2, false, none), (2, false, none), (2, false, none), (2, false, none), (2, false, none), (2, false, none), (0, false, none), (0, false, none), (2, false, none), (2, false, none), (2, false, none), (2, false, none), (2, false, none), (2, false, none), (2, false, none), (2, false, none), (2, false, none), (2, false, none), (2, false, none), (2, false, none), (2, false, none), (2, false, none), (2, false, none)] (Γ' := [(32, [], .bool true), (0, [], .pointer none), (1, [], .int .i64 p)]) (nd := (fun _ => [((.bool true : Value) ≠ .bool false), ((.bool true : Value) ≠ .bool false), ((.bool true : Value) ≠ .bool false), ((.bool true : Value) ≠ .bool false), ((.bool true : Value) ≠ .bool false), ((.bool true : Value) ≠ .bool false), ((.bool true : Value) ≠ .bool false), ((.bool true : Value) ≠ .bool false), ((.bool true : Value) ≠ .bool false), ((.bool true : Value) ≠ .bool false), ((.bool true : Value) ≠ .bool false), ((.bool true : Value) ≠ .bool false), ((.bool true : Value) ≠ .bool false), ((.bool true : Value) ≠ .bool false), ((.bool true : Value) ≠ .bool false), ((.bool true : Value) ≠ .bool false), ((.bool true : Value) ≠ .bool false), ((.bool true : Value) ≠ .bool false), ((.bool true : Value) ≠ .bool false), ((.bool true : Value) ≠ .bool false), ((.bool true : Value) ≠ .bool false)])) (by kernel_rfl) (by kernel_rfl) (fun _ => by kernel_rfl) ⟨(by simp), (by simp), (by simp), (by simp), (by simp), (by simp), (by simp), (by simp), (by simp), (by simp), (by simp), (by simp), (by simp), (by simp), (by simp), (by simp), (by simp), (by simp), (by simp), (by simp), (by simp), trivial⟩ ?_
  refine Cfg.condT rfl (b := true) (by kernel_rfl) rfl ?_
  refine Cfg.reg rfl [4, 5] [] (Γ' := [(5, [], .bool false), (4, [], .int .i64 0)]) (nd := (fun _ => [])) (fun _ => by kernel_rfl) trivial ?_
  refine Cfg.ret rfl (rs := [.tmp 4, .tmp 5]) rfl [.int .i64 0, .bool false] ⟨by kernel_rfl, by kernel_rfl, trivial⟩ (fun w1 hp => ?_)
  exact ⟨rfl, hp.ext⟩

set_option maxRecDepth 100000 in
theorem place (s : Nat) (f p : Int) (o : K.Own) (fr : List Bool) (w : World) (hf : I64 f) (hpI : I64 p) (hm : fr.length ≤ 4096) (hR : Has w [(s, .cells #[.int .i64 f, .slice (Own.a o) fr.length (Own.c o)] 94 (0, 0))]) :
    Calls Try.prog 55 #[.pointer (some ⟨s, 0, none⟩), .int .i64 p] w fun e w' => e = .returned (.tuple #[.int .i64 (if inP f fr.length p then p - f else 0), .bool (inP f fr.length p)]) ∧ Ext [] w w' := by
  unfold I64 at hf hpI
  refine enter (vs := [.pointer (some ⟨s, 0, none⟩), .int .i64 p]) [] [(s, .cells #[.int .i64 f, .slice (Own.a o) fr.length (Own.c o)] 94 (0, 0))] [] Try.func55 rfl (by kernel_rfl) (HP.ofHas hR) ?_
  refine Cfg.reg rfl [0, 1] [] (Γ' := [(0, [], .pointer (some ⟨s, 0, none⟩)), (1, [], .int .i64 p)]) (nd := (fun _ => [])) (fun _ => by kernel_rfl) trivial ?_
  refine Cfg.regD rfl (by kernel_rfl) [0, 1, 32] [(0, false, none), (0, false, none), (0, false, none), (1, false, none), (1, false, none), (1, false, none), (1, false, none), (1, false, some (.int .i64 f)), (1, false, none), (0, false, none), (0, false, none), (0, false, none), (0, false, none), (0, false, none), (0, false, none), (0, false, none), (0, false, some (.int .i64 f)), (0, false, none), (0, false, none), (0, false, none), (0, false, none), (0, false, none), (0, false, some (.slice (Own.a o) fr.length (Own.c o)))] (Γ' := [(32, [], .bool ((decide (p < f)) || (decide ((((p % 18446744073709551616) - (f % 18446744073709551616)) % 18446744073709551616) ≥ ((fr.length : Int) % 18446744073709551616))))), (0, [], .pointer (some ⟨s, 0, none⟩)), (1, [], .int .i64 p)]) (nd := (fun S => [((.bool false : Value) = .bool false), ((.bool false : Value) = .bool false), ((.bool false : Value) = .bool false), ((.bool false : Value) = .bool false), ((.bool false : Value) = .bool false), (∀ w1, S w1 → w1.cell? ⟨s, 0, none⟩ = some (.int .i64 f)), ((.bool false : Value) = .bool false), ((.bool (decide (p < f)) : Value) = .bool false → (∀ w1, S w1 → w1.cell? ⟨s, 0, none⟩ = some (.int .i64 f))), ((.bool (decide (p < f)) : Value) = .bool false → (∀ w1, S w1 → w1.cell? ⟨s, 1, none⟩ = some (.slice (Own.a o) fr.length (Own.c o))))])) (by kernel_rfl) (by kernel_rfl) (fun _ => by kernel_rfl) ⟨rfl, rfl, rfl, rfl, rfl, (fun w1 h => h.rcell 0 rfl rfl), rfl, (fun g0 => have q0 : (¬ (p < f)) := (of_decide_eq_false (boolV g0)); (fun w1 h => h.rcell 0 rfl rfl)), (fun g0 => have q0 : (¬ (p < f)) := (of_decide_eq_false (boolV g0)); (fun w1 h => h.rcell 0 rfl rfl)), trivial⟩ ?_
  refine Cfg.cond rfl (b := ((decide (p < f)) || (decide ((((p % 18446744073709551616) - (f % 18446744073709551616)) % 18446744073709551616) ≥ ((fr.length : Int) % 18446744073709551616))))) (by kernel_rfl) (fun c1r => ?_) (fun c1r => ?_)
  · have c1 : ((p < f) ∨ ((((p % 18446744073709551616) - (f % 18446744073709551616)) % 18446744073709551616) ≥ ((fr.length : Int) % 18446744073709551616))) := ((orT c1r).elim (fun h => Or.inl (of_decide_eq_true h)) (fun h => Or.inr (of_decide_eq_true h)))
    refine Cfg.reg rfl [4, 5] [] (Γ' := [(5, [], .bool false), (4, [], .int .i64 0)]) (nd := (fun _ => [])) (fun _ => by kernel_rfl) trivial ?_
    refine Cfg.ret rfl (rs := [.tmp 4, .tmp 5]) rfl [.int .i64 0, .bool false] ⟨by kernel_rfl, by kernel_rfl, trivial⟩ (fun w1 hp => ?_)
    have hin : inP f fr.length p = false := by
      unfold inP
      simp at c1r
      simp
      omega
    rw [hin]
    exact ⟨rfl, hp.ext⟩
  · have c1 : ((¬ (p < f)) ∧ (¬ ((((p % 18446744073709551616) - (f % 18446744073709551616)) % 18446744073709551616) ≥ ((fr.length : Int) % 18446744073709551616)))) := ⟨(of_decide_eq_false (orF1 c1r)), (of_decide_eq_false (orF2 c1r))⟩
    refine Cfg.reg rfl [4, 5] [(0, false, none), (0, false, none), (0, false, none), (0, false, none), (0, false, some (.int .i64 f))] (Γ' := [(5, [], .bool true), (4, [], .int .i64 (p - f))]) (nd := (fun S => [(∀ w1, S w1 → w1.cell? ⟨s, 0, none⟩ = some (.int .i64 f)), ((-9223372036854775808 : Int) ≤ (p - f) ∧ (p - f) ≤ 9223372036854775807)])) (fun _ => by kernel_rfl) ⟨(fun w1 h => h.rcell 0 rfl rfl), (by omega), trivial⟩ ?_
    refine Cfg.ret rfl (rs := [.tmp 4, .tmp 5]) rfl [.int .i64 (p - f), .bool true] ⟨by kernel_rfl, by kernel_rfl, trivial⟩ (fun w1 hp => ?_)
    have hin : inP f fr.length p = true := by
      unfold inP
      simp at c1r
      simp
      omega
    rw [hin]
    exact ⟨rfl, hp.ext⟩

end Go.Proofs.Ytmkefcjphdaoiaa
