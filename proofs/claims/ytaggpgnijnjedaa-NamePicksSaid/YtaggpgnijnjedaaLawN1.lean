/- NameRefs returns true. Condition: the text is no longer than any can be. -/
import Derived.Test.YtaggpgnijnjedaaName6
namespace Go.Proofs.Ytaggpgnijnjedaa
open K
set_option linter.unusedVariables false

theorem ref_main (w : World) : Calls Try.prog 8 #[.string ⟨#[109, 97, 105, 110]⟩] w fun e w' => e = .returned (.bool true) ∧ Ext [] w w' := by
  have := nameRef ⟨#[109, 97, 105, 110]⟩ w (by unfold maxLen; decide)
  rwa [show refB ⟨#[109, 97, 105, 110]⟩ = true by decide +kernel] at this
theorem ref_1a (w : World) : Calls Try.prog 8 #[.string ⟨#[49, 97]⟩] w fun e w' => e = .returned (.bool false) ∧ Ext [] w w' := by
  have := nameRef ⟨#[49, 97]⟩ w (by unfold maxLen; decide)
  rwa [show refB ⟨#[49, 97]⟩ = false by decide +kernel] at this
theorem fileS_size (c : UInt8) {l : List UInt8} (hl : l.length = 32) : (fileS c l).size = 66 := by
  unfold fileS
  rw [ByteArray.size_append, hexS_size hl]; rfl

set_option maxRecDepth 100000 in
theorem awake07 (w : World) :
    Calls Try.prog 7 #[] w fun e w' => e = .returned (.bool true) ∧ Ext [] w w' := by
  refine enter (vs := []) [] [] [] Try.func7 rfl (by kernel_rfl) (HP.start w) ?_
  refine Cfg.reg rfl [] [] (Γ' := []) (nd := (fun _ => [])) (fun _ => by kernel_rfl) trivial ?_
  refine Cfg.begL rfl ?_
  refine CfgL.eff (o := _) rfl (by kernel_rfl) (by kernel_rfl) (Eff.callA (vs := [.string ⟨#[109, 97, 105, 110]⟩]) (.bool true) rfl Try.func8 rfl rfl (by kernel_rfl) (fun w1 _ => ref_main w1)) ?_
  rintro ⟨⟩ -
  refine CfgL.pure 1 [] none (Γ' := [(2, [], .bool true), (1, [], .bool true)]) (nd := (fun _ => [])) (by kernel_rfl) (fun _ => by kernel_rfl) trivial ?_
  refine CfgL.eff (o := _) rfl (by kernel_rfl) (by kernel_rfl) (Eff.callA (vs := [.string ⟨#[49, 97]⟩]) (.bool false) rfl Try.func8 rfl rfl (by kernel_rfl) (fun w1 _ => ref_1a w1)) ?_
  rintro ⟨⟩ -
  refine CfgL.pure 4 [(1, false, none), (0, false, none), (0, false, none), (1, false, some (.agg (bv (List.replicate 32 0))))] none (Γ' := [(7, [], .agg (bv (List.replicate 32 0))), (6, [], .bool true), (5, [], .bool true), (4, [], .bool true), (3, [], .bool false), (2, [], .bool true), (1, [], .bool true)]) (nd := (fun S => [((.bool true : Value) = .bool true), ((.bool true : Value) = .bool true), (∀ w1, S w1 → (Instr.build 25 #[]).run Try.prog w1 = .ok (.agg (bv (List.replicate 32 0))) w1)])) (by kernel_rfl) (fun _ => by kernel_rfl) ⟨rfl, rfl, (fun _ _ => by kernel_rfl), trivial⟩ ?_
  refine CfgL.eff (o := _) rfl (by kernel_rfl) (by kernel_rfl) (Eff.callA (vs := [.agg (bv (List.replicate 32 0))]) (.string (fileS 111 (List.replicate 32 0))) rfl Try.func10 rfl rfl (by kernel_rfl) (fun w1 _ => nameObject (List.replicate 32 0) w1 rfl)) ?_
  rintro ⟨⟩ -
  refine CfgL.pure 4 [(1, false, none), (1, false, none)] (some [0]) (Γ' := [(0, [], .bool (((fileS 111 (List.replicate 32 0)).size : Int) == (66 : Int)))]) (nd := (fun _ => [((.bool true : Value) = .bool true), ((.bool true : Value) = .bool true)])) (by kernel_rfl) (fun _ => by kernel_rfl) ⟨rfl, rfl, trivial⟩ ?_
  refine CfgL.done rfl ?_
  refine Cfg.ret rfl (rs := [.tmp 0]) rfl [.bool (((fileS 111 (List.replicate 32 0)).size : Int) == (66 : Int))] ⟨by kernel_rfl, trivial⟩ (fun w1 hp => ?_)
  exact ⟨by rw [fileS_size _ rfl]; rfl, hp.ext⟩

set_option maxRecDepth 100000 in
theorem lawNameRefs (s : ByteArray) (w : World) (hs : s.size ≤ maxLen) :
    Calls Try.prog 3 #[.string s] w fun e w' => e = .returned (.bool true) ∧ Ext [] w w' := by
  refine enter (vs := [.string s]) [] [] [] Try.func3 rfl (by kernel_rfl) (HP.start w) ?_
  refine Cfg.reg rfl [0] [] (Γ' := [(0, [], .string s)]) (nd := (fun _ => [])) (fun _ => by kernel_rfl) trivial ?_
  refine Cfg.begL rfl ?_
  refine CfgL.eff (o := _) rfl (by kernel_rfl) (by kernel_rfl) (Eff.callA (vs := []) (.bool true) rfl Try.func7 rfl rfl (by kernel_rfl) (fun w1 _ => awake07 w1)) ?_
  rintro ⟨⟩ -
  refine CfgL.pure 1 [] (some [0, 4]) (Γ' := [(4, [], .bool false), (0, [], .string s)]) (nd := (fun _ => [])) (by kernel_rfl) (fun _ => by kernel_rfl) trivial ?_
  refine CfgL.done rfl ?_
  refine Cfg.condF rfl (b := false) (by kernel_rfl) rfl ?_
  refine Cfg.begL rfl ?_
  refine CfgL.pure 4 [] none (Γ' := [(8, [], .bool (decide ((s.size : Int) > (200 : Int)))), (7, [], .bool (decide ((s.size : Int) > (200 : Int)))), (6, [], .int .i64 (s.size : Int)), (5, [], .string s), (4, [], .bool false), (0, [], .string s)]) (nd := (fun _ => [])) (by kernel_rfl) (fun _ => by kernel_rfl) trivial ?_
  by_cases c2 : (decide ((s.size : Int) > (200 : Int))) = true
  · have c2k : (decide ((s.size : Int) > (200 : Int))) = true := c2
    have c2q : ((s.size : Int) > (200 : Int)) := (of_decide_eq_true c2k)
    refine CfgL.known 8 (b := (decide ((s.size : Int) > (200 : Int)))) (by kernel_rfl) true c2k ?_
    refine CfgL.pure 7 [(2, false, none), (2, false, none), (2, false, none), (2, false, none), (2, false, none)] (some [2]) (Γ' := [(2, [], .bool true)]) (nd := (fun _ => [((.bool true : Value) ≠ .bool false), ((.bool true : Value) ≠ .bool false), ((.bool true : Value) ≠ .bool false), ((.bool true : Value) ≠ .bool false), ((.bool true : Value) ≠ .bool false)])) (by kernel_rfl) (fun _ => by kernel_rfl) ⟨(by simp), (by simp), (by simp), (by simp), (by simp), trivial⟩ ?_
    refine CfgL.done rfl ?_
    refine Cfg.ret rfl (rs := [.tmp 2]) rfl [.bool true] ⟨by kernel_rfl, trivial⟩ (fun w1 hp => ?_)
    exact ⟨by simp [resOf], hp.ext⟩
  · have c2k : (decide ((s.size : Int) > (200 : Int))) = false := (by simpa using c2)
    have c2q : (¬ ((s.size : Int) > (200 : Int))) := (of_decide_eq_false c2k)
    refine CfgL.known 8 (b := (decide ((s.size : Int) > (200 : Int)))) (by kernel_rfl) false c2k ?_
    refine CfgL.pure 1 [(1, false, none)] none (Γ' := [(9, [], .string s), (8, [], .bool false), (7, [], .bool (decide ((s.size : Int) > (200 : Int)))), (6, [], .int .i64 (s.size : Int)), (5, [], .string s), (4, [], .bool false), (0, [], .string s)]) (nd := (fun _ => [((.bool false : Value) = .bool false)])) (by kernel_rfl) (fun _ => by kernel_rfl) ⟨rfl, trivial⟩ ?_
    refine CfgL.eff (o := _) rfl (by kernel_rfl) (by kernel_rfl) (Eff.callA (vs := [.string s]) (.bool (refB s)) rfl Try.func8 rfl rfl (by kernel_rfl) (fun w1 _ => nameRef s w1 hs)) ?_
    rintro ⟨⟩ -
    refine CfgL.pure 1 [(1, false, none)] none (Γ' := [(11, [], .string s), (10, [], .bool (refB s)), (9, [], .string s), (8, [], .bool false), (7, [], .bool (decide ((s.size : Int) > (200 : Int)))), (6, [], .int .i64 (s.size : Int)), (5, [], .string s), (4, [], .bool false), (0, [], .string s)]) (nd := (fun _ => [((.bool false : Value) = .bool false)])) (by kernel_rfl) (fun _ => by kernel_rfl) ⟨rfl, trivial⟩ ?_
    refine CfgL.eff (o := _) rfl (by kernel_rfl) (by kernel_rfl) (Eff.callA (vs := [.string s]) (.bool (refB s)) rfl Try.func9 rfl rfl (by kernel_rfl) (fun w1 _ => refRef s w1 hs)) ?_
    rintro ⟨⟩ -
    refine CfgL.pure 3 [(1, false, none)] (some [2]) (Γ' := [(2, [], .bool ((refB s) == (refB s)))]) (nd := (fun _ => [((.bool false : Value) = .bool false)])) (by kernel_rfl) (fun _ => by kernel_rfl) ⟨rfl, trivial⟩ ?_
    refine CfgL.done rfl ?_
    refine Cfg.ret rfl (rs := [.tmp 2]) rfl [.bool ((refB s) == (refB s))] ⟨by kernel_rfl, trivial⟩ (fun w1 hp => ?_)
    exact ⟨by simp [resOf], hp.ext⟩

end Go.Proofs.Ytaggpgnijnjedaa
