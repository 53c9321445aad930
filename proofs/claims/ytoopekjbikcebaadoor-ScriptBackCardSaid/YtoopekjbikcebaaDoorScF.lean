/- script: the program's numbers; where a text ends, where a byte lies, how often. -/
import Derived.Test.YtoopekjbikcebaaDoorScFa
namespace Go.Proofs.YtoopekjbikcebaaDoor
open K
set_option linter.unusedVariables false

set_option maxRecDepth 100000 in
theorem sNumber (t : ByteArray) (w : World) (hn : t.size ≤ maxLen) :
    Calls Tryd.prog 28 #[.string t] w fun e w' => e = .returned (.tuple #[.int .u32 ((numV t.data.toList).1 : Int), .bool (numV t.data.toList).2]) ∧ Ext [] w w' := by
  have hlen := ba_len t
  unfold maxLen at hn
  refine enter (vs := [.string t]) [] [] [] Tryd.func28 rfl (by kernel_rfl) (HP.start w) ?_
  refine Cfg.reg rfl [0] [] (Γ' := [(0, [], .string t)]) (nd := (fun _ => [])) (fun _ => by kernel_rfl) trivial ?_
  refine Cfg.reg rfl [0, 22] [] (Γ' := [(22, [], .bool (((t.toList == (⟨#[]⟩ : ByteArray).toList) || (decide ((t.size : Int) > (10 : Int)))) || (((sbyte t (0 : Int)) == (48 : Int)) && (decide ((t.size : Int) > (1 : Int)))))), (0, [], .string t)]) (nd := (fun _ => [((.bool ((t.toList == (⟨#[]⟩ : ByteArray).toList) || (decide ((t.size : Int) > (10 : Int)))) : Value) = .bool false → (0 ≤ (0 : Int) ∧ (0 : Int) < (t.size : Int)))])) (fun _ => by kernel_rfl) ⟨(fun g0 => have q0 : (((t.toList == (⟨#[]⟩ : ByteArray).toList) = false) ∧ (¬ ((t.size : Int) > (10 : Int)))) := ⟨(orF1 (boolV g0)), (of_decide_eq_false (orF2 (boolV g0)))⟩; (by have h9 := ne_raw q0.1; omega)), trivial⟩ ?_
  refine Cfg.cond rfl (b := (((t.toList == (⟨#[]⟩ : ByteArray).toList) || (decide ((t.size : Int) > (10 : Int)))) || (((sbyte t (0 : Int)) == (48 : Int)) && (decide ((t.size : Int) > (1 : Int)))))) (by kernel_rfl) (fun c1r => ?_) (fun c1r => ?_)
  · have c1 : ((((t.toList == (⟨#[]⟩ : ByteArray).toList) = true) ∨ ((t.size : Int) > (10 : Int))) ∨ (((sbyte t (0 : Int)) = (48 : Int)) ∧ ((t.size : Int) > (1 : Int)))) := ((orT c1r).elim (fun h => Or.inl ((orT h).elim (fun h => Or.inl h) (fun h => Or.inr (of_decide_eq_true h)))) (fun h => Or.inr ⟨(beq_iff_eq.1 (andT1 h)), (of_decide_eq_true (andT2 h))⟩))
    have hN : numP t.data.toList = none := numP_bad (num_c1 c1)
    refine Cfg.reg rfl [2, 3] [] (Γ' := [(3, [], .bool false), (2, [], .int .u32 0)]) (nd := (fun _ => [])) (fun _ => by kernel_rfl) trivial ?_
    refine Cfg.ret rfl (rs := [.tmp 2, .tmp 3]) rfl [.int .u32 0, .bool false] ⟨by kernel_rfl, by kernel_rfl, trivial⟩ (fun w1 hp => ?_)
    exact ⟨by rw [numV_none hN]; rfl, hp.ext⟩
  · have c1 : ((((t.toList == (⟨#[]⟩ : ByteArray).toList) = false) ∧ (¬ ((t.size : Int) > (10 : Int)))) ∧ (((sbyte t (0 : Int)) ≠ (48 : Int)) ∨ (¬ ((t.size : Int) > (1 : Int))))) := ⟨⟨(orF1 (orF1 c1r)), (of_decide_eq_false (orF2 (orF1 c1r)))⟩, ((andF (orF2 c1r)).elim (fun h => Or.inl (beq_eq_false_iff_ne.1 h)) (fun h => Or.inr (of_decide_eq_false h)))⟩
    have hg := num_c0 c1
    refine Cfg.reg rfl [0, 4] [] (Γ' := [(4, [], .int .u64 0), (0, [], .string t)]) (nd := (fun _ => [])) (fun _ => by kernel_rfl) trivial ?_
    refine Cfg.reg rfl [0, 4, 24, 25] [] (Γ' := [(25, [], .int .i64 0), (24, [], .int .i64 (t.size : Int)), (4, [], .int .u64 0), (0, [], .string t)]) (nd := (fun _ => [])) (fun _ => by kernel_rfl) trivial ?_
    refine Cfg.setG (Γ' := [(25, [], .int .i64 0), (24, [], .int .i64 (t.size : Int)), (4, [], .int .u64 ((valF 0 (List.take 0 t.data.toList)) : Int)), (0, [], .string t)]) (congrArg (fun (xq : Int) => ([(25, [], .int .i64 0), (24, [], .int .i64 (t.size : Int)), (4, [], .int .u64 xq), (0, [], .string t)] : Env)) (by rw [List.take_zero]; rfl)) ?_
    refine Cfg.loop rfl (ι := Nat) (fun (k : Nat) => [(25, [], .int .i64 (k : Int)), (24, [], .int .i64 (t.size : Int)), (4, [], .int .u64 ((valF 0 (List.take k t.data.toList)) : Int)), (0, [], .string t)]) (fun (k : Nat) => []) (fun (k : Nat) => (k ≤ t.size) ∧ (∀ j, j < k → isD (t.data.toList.getD j 0) = true) ∧ (valF 0 (List.take k t.data.toList) < 10000000000)) (fun (k : Nat) => t.size - k) 0 ?_ (Conv.mk (by kernel_rfl)) .slnil ?_
    · exact ⟨Nat.zero_le _, (fun j h => absurd h (Nat.not_lt_zero j)), by rw [List.take_zero]; exact (by omega : (0 : Nat) < 10000000000)⟩
    · rintro k ⟨hk, hd, hv⟩
      refine Cfg.reg rfl [0, 4, 24, 25, 26] [] (Γ' := [(26, [], .bool (decide ((k : Int) < (t.size : Int)))), (25, [], .int .i64 (k : Int)), (24, [], .int .i64 (t.size : Int)), (4, [], .int .u64 ((valF 0 (List.take k t.data.toList)) : Int)), (0, [], .string t)]) (nd := (fun _ => [])) (fun _ => by kernel_rfl) trivial ?_
      refine Cfg.cond rfl (b := (decide ((k : Int) < (t.size : Int)))) (by kernel_rfl) (fun c2r => ?_) (fun c2r => ?_)
      · have c2 : ((k : Int) < (t.size : Int)) := (of_decide_eq_true c2r)
        refine Cfg.reg rfl [0, 4, 5, 24, 25] [] (Γ' := [(5, [], .int .i64 (k : Int)), (25, [], .int .i64 (k : Int)), (24, [], .int .i64 (t.size : Int)), (4, [], .int .u64 ((valF 0 (List.take k t.data.toList)) : Int)), (0, [], .string t)]) (nd := (fun _ => [])) (fun _ => by kernel_rfl) trivial ?_
        refine Cfg.reg rfl [0, 4, 5, 24, 25, 37] [] (Γ' := [(37, [], .bool ((decide ((sbyte t (k : Int)) < (48 : Int))) || (decide ((sbyte t (k : Int)) > (57 : Int))))), (5, [], .int .i64 (k : Int)), (25, [], .int .i64 (k : Int)), (24, [], .int .i64 (t.size : Int)), (4, [], .int .u64 ((valF 0 (List.take k t.data.toList)) : Int)), (0, [], .string t)]) (nd := (fun _ => [(0 ≤ (k : Int) ∧ (k : Int) < (t.size : Int)), ((.bool (decide ((sbyte t (k : Int)) < (48 : Int))) : Value) = .bool false → (0 ≤ (k : Int) ∧ (k : Int) < (t.size : Int)))])) (fun _ => by kernel_rfl) ⟨(by omega), (fun g0 => have q0 : (¬ ((sbyte t (k : Int)) < (48 : Int))) := (of_decide_eq_false (boolV g0)); (by omega)), trivial⟩ ?_
        refine Cfg.cond rfl (b := ((decide ((sbyte t (k : Int)) < (48 : Int))) || (decide ((sbyte t (k : Int)) > (57 : Int))))) (by kernel_rfl) (fun c3r => ?_) (fun c3r => ?_)
        · have c3 : (((sbyte t (k : Int)) < (48 : Int)) ∨ ((sbyte t (k : Int)) > (57 : Int))) := ((orT c3r).elim (fun h => Or.inl (of_decide_eq_true h)) (fun h => Or.inr (of_decide_eq_true h)))
          rw [sb_at t k] at c3
          have hN : numP t.data.toList = none := numP_char (k := k) (by omega) (isD_no (by omega))
          refine Cfg.reg rfl [2, 3] [] (Γ' := [(3, [], .bool false), (2, [], .int .u32 0)]) (nd := (fun _ => [])) (fun _ => by kernel_rfl) trivial ?_
          refine Cfg.ret rfl (rs := [.tmp 2, .tmp 3]) rfl [.int .u32 0, .bool false] ⟨by kernel_rfl, by kernel_rfl, trivial⟩ (fun w1 hp => ?_)
          exact ⟨by rw [numV_none hN]; rfl, hp.ext⟩
        · have c3 : ((¬ ((sbyte t (k : Int)) < (48 : Int))) ∧ (¬ ((sbyte t (k : Int)) > (57 : Int)))) := ⟨(of_decide_eq_false (orF1 c3r)), (of_decide_eq_false (orF2 c3r))⟩
          rw [sb_at t k] at c3
          have hdk : ∀ j, j < k + 1 → isD (t.data.toList.getD j 0) = true := fun j hj => by rcases Nat.lt_or_ge j k with h1 | h1; exact hd j h1; rw [show j = k by omega]; exact isD_iff.2 (by omega)
          have hvt := valF_take (q := t.data.toList) (k := k) (by omega)
          have hbl := byteLe (t.data.toList.getD k 0)
          have hv2 := val_10 (l := t.data.toList) (k := k + 1) (by omega) (by omega) hdk
          refine Cfg.reg rfl [0, 4, 24, 25] [] (Γ' := [(4, [], .int .u64 ((((((valF 0 (List.take k t.data.toList)) : Int) * 10) % 18446744073709551616) + (((sbyte t (k : Int)) - 48) % 256)) % 18446744073709551616)), (25, [], .int .i64 (k : Int)), (24, [], .int .i64 (t.size : Int)), (0, [], .string t)]) (nd := (fun _ => [(0 ≤ (k : Int) ∧ (k : Int) < (t.size : Int)), ((0 : Int) ≤ (((sbyte t (k : Int)) - 48) % 256) ∧ (((sbyte t (k : Int)) - 48) % 256) ≤ 18446744073709551615)])) (fun _ => by kernel_rfl) ⟨(by omega), (by omega), trivial⟩ ?_
          refine Cfg.reg rfl [0, 4, 24, 25] [] (Γ' := [(25, [], .int .i64 ((k : Int) + 1)), (4, [], .int .u64 ((((((valF 0 (List.take k t.data.toList)) : Int) * 10) % 18446744073709551616) + (((sbyte t (k : Int)) - 48) % 256)) % 18446744073709551616)), (24, [], .int .i64 (t.size : Int)), (0, [], .string t)]) (nd := (fun _ => [((-9223372036854775808 : Int) ≤ ((k : Int) + 1) ∧ ((k : Int) + 1) ≤ 9223372036854775807)])) (fun _ => by kernel_rfl) ⟨(by omega), trivial⟩ ?_
          refine Cfg.setG (Γ' := [(25, [], .int .i64 ((k : Int) + 1)), (4, [], .int .u64 (((valF 0 (List.take (k + 1) t.data.toList)) : Nat) : Int)), (24, [], .int .i64 (t.size : Int)), (0, [], .string t)]) (congrArg (fun (xq : Int) => ([(25, [], .int .i64 ((k : Int) + 1)), (4, [], .int .u64 xq), (24, [], .int .i64 (t.size : Int)), (0, [], .string t)] : Env)) (by rw [sb_at t k]; omega)) ?_
          refine Cfg.again rfl (k + 1) ⟨by omega, hdk, hv2⟩ (by omega) (Conv.mk (by kernel_rfl)) .slnil
      · have c2 : (¬ ((k : Int) < (t.size : Int))) := (of_decide_eq_false c2r)
        have hN := numP_all hg (fun j hj => hd j (by omega))
        have htk : List.take k t.data.toList = t.data.toList := List.take_of_length_le (by omega)
        rw [htk] at hv
        refine Cfg.reg rfl [4, 48] [] (Γ' := [(48, [], .bool (decide (((valF 0 (List.take k t.data.toList)) : Int) > (4294967295 : Int)))), (4, [], .int .u64 ((valF 0 (List.take k t.data.toList)) : Int))]) (nd := (fun _ => [])) (fun _ => by kernel_rfl) trivial ?_
        refine Cfg.cond rfl (b := (decide (((valF 0 (List.take k t.data.toList)) : Int) > (4294967295 : Int)))) (by kernel_rfl) (fun c4r => ?_) (fun c4r => ?_)
        · have c4 : (((valF 0 (List.take k t.data.toList)) : Int) > (4294967295 : Int)) := (of_decide_eq_true c4r)
          refine Cfg.reg rfl [2, 3] [] (Γ' := [(3, [], .bool false), (2, [], .int .u32 0)]) (nd := (fun _ => [])) (fun _ => by kernel_rfl) trivial ?_
          refine Cfg.ret rfl (rs := [.tmp 2, .tmp 3]) rfl [.int .u32 0, .bool false] ⟨by kernel_rfl, by kernel_rfl, trivial⟩ (fun w1 hp => ?_)
          rw [htk] at c4
          rw [if_neg (by omega)] at hN
          exact ⟨by rw [numV_none hN]; rfl, hp.ext⟩
        · have c4 : (¬ (((valF 0 (List.take k t.data.toList)) : Int) > (4294967295 : Int))) := (of_decide_eq_false c4r)
          refine Cfg.reg rfl [2, 3] [] (Γ' := [(3, [], .bool true), (2, [], .int .u32 (((valF 0 (List.take k t.data.toList)) : Int) % 4294967296))]) (nd := (fun _ => [])) (fun _ => by kernel_rfl) trivial ?_
          refine Cfg.ret rfl (rs := [.tmp 2, .tmp 3]) rfl [.int .u32 (((valF 0 (List.take k t.data.toList)) : Int) % 4294967296), .bool true] ⟨by kernel_rfl, by kernel_rfl, trivial⟩ (fun w1 hp => ?_)
          rw [htk] at c4
          rw [if_pos (by omega)] at hN
          exact ⟨by rw [numV_some hN, htk, show ((valF 0 t.data.toList : Nat) : Int) % 4294967296 = ((valF 0 t.data.toList : Nat) : Int) by omega]; rfl, hp.ext⟩

set_option maxRecDepth 100000 in
theorem hasSuf (t : ByteArray) (w : World) (hn : t.size ≤ maxLen) :
    Calls Tryd.prog 34 #[.string t, .string ⟨#[10]⟩] w fun e w' => e = .returned (.bool (endsN t.data.toList)) ∧ Ext [] w w' := by
  have hlen := ba_len t
  unfold maxLen at hn
  refine enter (vs := [.string t, .string ⟨#[10]⟩]) [] [] [] Tryd.func34 rfl (by kernel_rfl) (HP.start w) ?_
  refine Cfg.reg rfl [0, 1] [] (Γ' := [(0, [], .string t), (1, [], .string ⟨#[10]⟩)]) (nd := (fun _ => [])) (fun _ => by kernel_rfl) trivial ?_
  refine Cfg.reg rfl [4] [] (Γ' := [(4, [], .bool ((decide ((t.size : Int) ≥ (1 : Int))) && ((t.extract ((((t.size : Int) - 1)).toNat) t.size).toList == (⟨#[10]⟩ : ByteArray).toList)))]) (nd := (fun _ => [((.bool (decide ((t.size : Int) ≥ (1 : Int))) : Value) = .bool true → ((-9223372036854775808 : Int) ≤ ((t.size : Int) - 1) ∧ ((t.size : Int) - 1) ≤ 9223372036854775807)), ((.bool (decide ((t.size : Int) ≥ (1 : Int))) : Value) = .bool true → (0 ≤ ((t.size : Int) - 1))), ((.bool (decide ((t.size : Int) ≥ (1 : Int))) : Value) = .bool true → ((((t.size : Int) - 1)).toNat ≤ t.size ∧ t.size ≤ t.size))])) (fun _ => by kernel_rfl) ⟨(fun g0 => have q0 : ((t.size : Int) ≥ (1 : Int)) := (of_decide_eq_true (boolV g0)); (by omega)), (fun g0 => have q0 : ((t.size : Int) ≥ (1 : Int)) := (of_decide_eq_true (boolV g0)); (by omega)), (fun g0 => have q0 : ((t.size : Int) ≥ (1 : Int)) := (of_decide_eq_true (boolV g0)); (by omega)), trivial⟩ ?_
  refine Cfg.ret rfl (rs := [.tmp 4]) rfl [.bool ((decide ((t.size : Int) ≥ (1 : Int))) && ((t.extract ((((t.size : Int) - 1)).toNat) t.size).toList == (⟨#[10]⟩ : ByteArray).toList))] ⟨by kernel_rfl, trivial⟩ (fun w1 hp => ?_)
  exact ⟨by rw [has_raw]; rfl, hp.ext⟩

set_option maxRecDepth 100000 in
theorem cutSuf (t : ByteArray) (w : World) (hn : t.size ≤ maxLen) :
    Calls Tryd.prog 26 #[.string t, .string ⟨#[10]⟩] w fun e w' => e = .returned (.tuple #[.string (tx (cutN t.data.toList).1), .bool (cutN t.data.toList).2]) ∧ Ext [] w w' := by
  have hlen := ba_len t
  have hn0 := hn
  unfold maxLen at hn
  refine enter (vs := [.string t, .string ⟨#[10]⟩]) [] [] [] Tryd.func26 rfl (by kernel_rfl) (HP.start w) ?_
  refine Cfg.reg rfl [0, 1] [] (Γ' := [(0, [], .string t), (1, [], .string ⟨#[10]⟩)]) (nd := (fun _ => [])) (fun _ => by kernel_rfl) trivial ?_
  refine Cfg.begL rfl ?_
  refine CfgL.pure 2 [] none (Γ' := [(7, [], .string ⟨#[10]⟩), (6, [], .string t), (0, [], .string t), (1, [], .string ⟨#[10]⟩)]) (nd := (fun _ => [])) (by kernel_rfl) (fun _ => by kernel_rfl) trivial ?_
  refine CfgL.eff (o := _) rfl (by kernel_rfl) (by kernel_rfl) (Eff.callA (vs := [.string t, .string ⟨#[10]⟩]) (.bool (endsN t.data.toList)) rfl Tryd.func34 rfl rfl (by kernel_rfl) (fun w1 _ => hasSuf t w1 hn0)) ?_
  rintro ⟨⟩ -
  refine CfgL.pure 1 [] (some [0, 1, 9]) (Γ' := [(9, [], .bool (!(endsN t.data.toList))), (0, [], .string t), (1, [], .string ⟨#[10]⟩)]) (nd := (fun _ => [])) (by kernel_rfl) (fun _ => by kernel_rfl) trivial ?_
  refine CfgL.done rfl ?_
  refine Cfg.cond rfl (b := (!(endsN t.data.toList))) (by kernel_rfl) (fun c1r => ?_) (fun c1r => ?_)
  · have c1 : ((endsN t.data.toList) = false) := (notT c1r)
    have he : endsN t.data.toList = false := by simpa using c1r
    refine Cfg.reg rfl [4, 5] [] (Γ' := [(5, [], .bool false), (4, [], .string t)]) (nd := (fun _ => [])) (fun _ => by kernel_rfl) trivial ?_
    refine Cfg.ret rfl (rs := [.tmp 4, .tmp 5]) rfl [.string t, .bool false] ⟨by kernel_rfl, by kernel_rfl, trivial⟩ (fun w1 hp => ?_)
    have hc : cutN t.data.toList = (t.data.toList, false) := by unfold cutN; rw [he]; rfl
    exact ⟨by rw [hc, tx_back]; rfl, hp.ext⟩
  · have c1 : ((endsN t.data.toList) = true) := (notF c1r)
    have he : endsN t.data.toList = true := by simpa using c1r
    have hpos : 1 ≤ t.data.toList.length := by rcases Nat.lt_or_ge 0 t.data.toList.length with h | h; exact h; rw [ends_short (by omega)] at he; cases he
    refine Cfg.reg rfl [4, 5] [] (Γ' := [(5, [], .bool true), (4, [], .string (t.extract 0 ((((t.size : Int) - 1)).toNat)))]) (nd := (fun _ => [((-9223372036854775808 : Int) ≤ ((t.size : Int) - 1) ∧ ((t.size : Int) - 1) ≤ 9223372036854775807), (0 ≤ ((t.size : Int) - 1)), (0 ≤ (((t.size : Int) - 1)).toNat ∧ (((t.size : Int) - 1)).toNat ≤ t.size)])) (fun _ => by kernel_rfl) ⟨(by omega), (by omega), (by omega), trivial⟩ ?_
    refine Cfg.ret rfl (rs := [.tmp 4, .tmp 5]) rfl [.string (t.extract 0 ((((t.size : Int) - 1)).toNat)), .bool true] ⟨by kernel_rfl, by kernel_rfl, trivial⟩ (fun w1 hp => ?_)
    have hc : cutN t.data.toList = (t.data.toList.dropLast, true) := by unfold cutN; rw [he]; rfl
    exact ⟨by rw [hc, ext0, show ((t.size : Int) - 1).toNat = t.data.toList.length - 1 by omega, ← List.dropLast_eq_take]; rfl, hp.ext⟩

set_option maxRecDepth 100000 in
theorem sCut (t : ByteArray) (w : World) (hn : t.size ≤ maxLen) :
    Calls Tryd.prog 19 #[.string t, .string ⟨#[10]⟩] w fun e w' => e = .returned (.tuple #[.string (tx (cutN t.data.toList).1), .bool (cutN t.data.toList).2]) ∧ Ext [] w w' := by
  have hlen := ba_len t
  have hn0 := hn
  unfold maxLen at hn
  refine enter (vs := [.string t, .string ⟨#[10]⟩]) [] [] [] Tryd.func19 rfl (by kernel_rfl) (HP.start w) ?_
  refine Cfg.reg rfl [0, 1] [] (Γ' := [(0, [], .string t), (1, [], .string ⟨#[10]⟩)]) (nd := (fun _ => [])) (fun _ => by kernel_rfl) trivial ?_
  refine Cfg.begL rfl ?_
  refine CfgL.pure 2 [] (some [6, 7]) (Γ' := [(7, [], .string ⟨#[10]⟩), (6, [], .string t)]) (nd := (fun _ => [])) (by kernel_rfl) (fun _ => by kernel_rfl) trivial ?_
  refine CfgL.eff (o := _) rfl (by kernel_rfl) (by kernel_rfl) (Eff.callA (vs := [.string t, .string ⟨#[10]⟩]) (.tuple #[.string (tx (cutN t.data.toList).1), .bool (cutN t.data.toList).2]) rfl Tryd.func26 rfl rfl (by kernel_rfl) (fun w1 _ => cutSuf t w1 hn0)) ?_
  rintro ⟨⟩ -
  refine CfgL.pure 4 [] (some [4, 5]) (Γ' := [(5, [], .bool (cutN t.data.toList).2), (4, [], .string (tx (cutN t.data.toList).1))]) (nd := (fun _ => [])) (by kernel_rfl) (fun _ => by kernel_rfl) trivial ?_
  refine CfgL.done rfl ?_
  refine Cfg.ret rfl (rs := [.tmp 4, .tmp 5]) rfl [.string (tx (cutN t.data.toList).1), .bool (cutN t.data.toList).2] ⟨by kernel_rfl, by kernel_rfl, trivial⟩ (fun w1 hp => ?_)
  exact ⟨rfl, hp.ext⟩

set_option maxRecDepth 100000 in
theorem ixLite (t : ByteArray) (c : UInt8) (w : World) :
    Calls Tryd.prog 33 #[.string t, .int .u8 (c.toNat : Int)] w fun e w' => e = .returned (.int .i64 (Lib.indexByte t.data.toList c)) ∧ Ext [] w w' := by
  refine enter (vs := [.string t, .int .u8 (c.toNat : Int)]) [] [] [] Tryd.func33 rfl (by kernel_rfl) (HP.start w) ?_
  refine Cfg.reg rfl [0, 1] [] (Γ' := [(0, [], .string t), (1, [], .int .u8 (c.toNat : Int))]) (nd := (fun _ => [])) (fun _ => by kernel_rfl) trivial ?_
  refine Cfg.begL rfl ?_
  refine CfgL.pure 2 [] (some [5, 6]) (Γ' := [(6, [], .int .u8 (c.toNat : Int)), (5, [], .string t)]) (nd := (fun _ => [])) (by kernel_rfl) (fun _ => by kernel_rfl) trivial ?_
  refine CfgL.eff (o := _) rfl (by kernel_rfl) (by kernel_rfl) (Eff.callE (vs := [.string t, .int .u8 (c.toNat : Int)]) (.int .i64 (Lib.indexByte t.data.toList c)) (e := Extern.BytealgIndexByte.indexByte) rfl Tryd.func40 rfl rfl (by kernel_rfl) (by kernel_rfl) (by kernel_rfl) (fun w1 h => by have h9 := Lib.run_indexByteString (P := Tryd.prog) t (c.toNat : Int) w1; rw [show ((c.toNat : Int)).toNat.toUInt8 = c by simp] at h9; exact h9)) ?_
  rintro ⟨⟩ -
  refine CfgL.pure 1 [] (some [4]) (Γ' := [(4, [], .int .i64 (Lib.indexByte t.data.toList c))]) (nd := (fun _ => [])) (by kernel_rfl) (fun _ => by kernel_rfl) trivial ?_
  refine CfgL.done rfl ?_
  refine Cfg.ret rfl (rs := [.tmp 4]) rfl [.int .i64 (Lib.indexByte t.data.toList c)] ⟨by kernel_rfl, trivial⟩ (fun w1 hp => ?_)
  exact ⟨rfl, hp.ext⟩

set_option maxRecDepth 100000 in
theorem sIndexByte (t : ByteArray) (c : UInt8) (w : World) :
    Calls Tryd.prog 25 #[.string t, .int .u8 (c.toNat : Int)] w fun e w' => e = .returned (.int .i64 (Lib.indexByte t.data.toList c)) ∧ Ext [] w w' := by
  refine enter (vs := [.string t, .int .u8 (c.toNat : Int)]) [] [] [] Tryd.func25 rfl (by kernel_rfl) (HP.start w) ?_
  refine Cfg.reg rfl [0, 1] [] (Γ' := [(0, [], .string t), (1, [], .int .u8 (c.toNat : Int))]) (nd := (fun _ => [])) (fun _ => by kernel_rfl) trivial ?_
  refine Cfg.begL rfl ?_
  refine CfgL.pure 2 [] (some [5, 6]) (Γ' := [(6, [], .int .u8 (c.toNat : Int)), (5, [], .string t)]) (nd := (fun _ => [])) (by kernel_rfl) (fun _ => by kernel_rfl) trivial ?_
  refine CfgL.eff (o := _) rfl (by kernel_rfl) (by kernel_rfl) (Eff.callA (vs := [.string t, .int .u8 (c.toNat : Int)]) (.int .i64 (Lib.indexByte t.data.toList c)) rfl Tryd.func33 rfl rfl (by kernel_rfl) (fun w1 _ => ixLite t c w1)) ?_
  rintro ⟨⟩ -
  refine CfgL.pure 1 [] (some [4]) (Γ' := [(4, [], .int .i64 (Lib.indexByte t.data.toList c))]) (nd := (fun _ => [])) (by kernel_rfl) (fun _ => by kernel_rfl) trivial ?_
  refine CfgL.done rfl ?_
  refine Cfg.ret rfl (rs := [.tmp 4]) rfl [.int .i64 (Lib.indexByte t.data.toList c)] ⟨by kernel_rfl, trivial⟩ (fun w1 hp => ?_)
  exact ⟨rfl, hp.ext⟩

set_option maxRecDepth 100000 in
theorem ixSp0 (t : ByteArray) (w : World) (hn : t.size ≤ maxLen) :
    Calls Tryd.prog 52 #[.string t, .string ⟨#[32]⟩] w fun e w' => e = .returned (.int .i64 (Lib.indexByte t.data.toList 32)) ∧ Ext [] w w' := by
  unfold maxLen at hn
  refine enter (vs := [.string t, .string ⟨#[32]⟩]) [] [] [] Tryd.func52 rfl (by kernel_rfl) (HP.start w) ?_
  refine Cfg.reg rfl [0, 1] [] (Γ' := [(0, [], .string t), (1, [], .string ⟨#[32]⟩)]) (nd := (fun _ => [])) (fun _ => by kernel_rfl) trivial ?_
  refine Cfg.reg rfl [0, 1, 5] [] (Γ' := [(5, [], .int .i64 1), (0, [], .string t), (1, [], .string ⟨#[32]⟩)]) (nd := (fun _ => [])) (fun _ => by kernel_rfl) trivial ?_
  refine Cfg.reg rfl [0, 1, 5, 16] [(0, false, none), (0, false, none), (0, false, none), (1, false, none), (1, false, none), (1, false, none)] (Γ' := [(16, [], .bool ((⟨#[32]⟩ : ByteArray).toList == t.toList)), (5, [], .int .i64 1), (0, [], .string t), (1, [], .string ⟨#[32]⟩)]) (nd := (fun _ => [((.bool false : Value) = .bool false), ((.bool false : Value) = .bool false), ((.bool false : Value) = .bool false)])) (fun _ => by kernel_rfl) ⟨rfl, rfl, rfl, trivial⟩ ?_
  refine Cfg.cond rfl (b := ((⟨#[32]⟩ : ByteArray).toList == t.toList)) (by kernel_rfl) (fun c1r => ?_) (fun c1r => ?_)
  · have c1 : (((⟨#[32]⟩ : ByteArray).toList == t.toList) = true) := c1r
    refine Cfg.reg rfl [4] [] (Γ' := [(4, [], .int .i64 0)]) (nd := (fun _ => [])) (fun _ => by kernel_rfl) trivial ?_
    refine Cfg.ret rfl (rs := [.tmp 4]) rfl [.int .i64 0] ⟨by kernel_rfl, trivial⟩ (fun w1 hp => ?_)
    have h9 := beq_tx [32] t.data.toList
    rw [tx_back] at h9
    have h8 : [32] = t.data.toList := by have := h9.symm.trans c1r; simpa using this
    exact ⟨by rw [← h8]; rfl, hp.ext⟩
  · have c1 : (((⟨#[32]⟩ : ByteArray).toList == t.toList) = false) := c1r
    refine Cfg.reg rfl [0, 1, 5, 24] [] (Γ' := [(24, [], .bool true), (5, [], .int .i64 1), (0, [], .string t), (1, [], .string ⟨#[32]⟩)]) (nd := (fun _ => [])) (fun _ => by kernel_rfl) trivial ?_
    refine Cfg.condT rfl (b := true) (by kernel_rfl) rfl ?_
    refine Cfg.begL rfl ?_
    refine CfgL.pure 3 [] (some [27, 29]) (Γ' := [(29, [], .int .u8 (sbyte ⟨#[32]⟩ (0 : Int))), (27, [], .string t)]) (nd := (fun _ => [(0 ≤ (0 : Int) ∧ (0 : Int) < (1 : Int))])) (by kernel_rfl) (fun _ => by kernel_rfl) ⟨(by omega), trivial⟩ ?_
    refine CfgL.eff (o := _) rfl (by kernel_rfl) (by kernel_rfl) (Eff.callA (vs := [.string t, .int .u8 (sbyte ⟨#[32]⟩ (0 : Int))]) (.int .i64 (Lib.indexByte t.data.toList 32)) rfl Tryd.func33 rfl rfl (by kernel_rfl) (fun w1 _ => ixLite t 32 w1)) ?_
    rintro ⟨⟩ -
    refine CfgL.pure 1 [] (some [4]) (Γ' := [(4, [], .int .i64 (Lib.indexByte t.data.toList 32))]) (nd := (fun _ => [])) (by kernel_rfl) (fun _ => by kernel_rfl) trivial ?_
    refine CfgL.done rfl ?_
    refine Cfg.ret rfl (rs := [.tmp 4]) rfl [.int .i64 (Lib.indexByte t.data.toList 32)] ⟨by kernel_rfl, trivial⟩ (fun w1 hp => ?_)
    exact ⟨rfl, hp.ext⟩

set_option maxRecDepth 100000 in
theorem sIndexSp (t : ByteArray) (w : World) (hn : t.size ≤ maxLen) :
    Calls Tryd.prog 43 #[.string t, .string ⟨#[32]⟩] w fun e w' => e = .returned (.int .i64 (Lib.indexByte t.data.toList 32)) ∧ Ext [] w w' := by
  unfold maxLen at hn
  refine enter (vs := [.string t, .string ⟨#[32]⟩]) [] [] [] Tryd.func43 rfl (by kernel_rfl) (HP.start w) ?_
  refine Cfg.reg rfl [0, 1] [] (Γ' := [(0, [], .string t), (1, [], .string ⟨#[32]⟩)]) (nd := (fun _ => [])) (fun _ => by kernel_rfl) trivial ?_
  refine Cfg.begL rfl ?_
  refine CfgL.pure 2 [] (some [5, 6]) (Γ' := [(6, [], .string ⟨#[32]⟩), (5, [], .string t)]) (nd := (fun _ => [])) (by kernel_rfl) (fun _ => by kernel_rfl) trivial ?_
  refine CfgL.eff (o := _) rfl (by kernel_rfl) (by kernel_rfl) (Eff.callA (vs := [.string t, .string ⟨#[32]⟩]) (.int .i64 (Lib.indexByte t.data.toList 32)) rfl Tryd.func52 rfl rfl (by kernel_rfl) (fun w1 _ => ixSp0 t w1 hn)) ?_
  rintro ⟨⟩ -
  refine CfgL.pure 1 [] (some [4]) (Γ' := [(4, [], .int .i64 (Lib.indexByte t.data.toList 32))]) (nd := (fun _ => [])) (by kernel_rfl) (fun _ => by kernel_rfl) trivial ?_
  refine CfgL.done rfl ?_
  refine Cfg.ret rfl (rs := [.tmp 4]) rfl [.int .i64 (Lib.indexByte t.data.toList 32)] ⟨by kernel_rfl, trivial⟩ (fun w1 hp => ?_)
  exact ⟨rfl, hp.ext⟩

set_option maxRecDepth 100000 in
theorem sCount (t : ByteArray) (w : World) :
    Calls Tryd.prog 42 #[.string t, .string ⟨#[32]⟩] w fun e w' => e = .returned (.int .i64 (t.data.toList.count 32 : Int)) ∧ Ext [] w w' := by
  refine enter (vs := [.string t, .string ⟨#[32]⟩]) [] [] [] Tryd.func42 rfl (by kernel_rfl) (HP.start w) ?_
  refine Cfg.reg rfl [0, 1] [] (Γ' := [(0, [], .string t), (1, [], .string ⟨#[32]⟩)]) (nd := (fun _ => [])) (fun _ => by kernel_rfl) trivial ?_
  refine Cfg.reg rfl [0, 1, 9] [] (Γ' := [(9, [], .bool false), (0, [], .string t), (1, [], .string ⟨#[32]⟩)]) (nd := (fun _ => [])) (fun _ => by kernel_rfl) trivial ?_
  refine Cfg.condF rfl (b := false) (by kernel_rfl) rfl ?_
  refine Cfg.reg rfl [0, 1, 15] [] (Γ' := [(15, [], .bool true), (0, [], .string t), (1, [], .string ⟨#[32]⟩)]) (nd := (fun _ => [])) (fun _ => by kernel_rfl) trivial ?_
  refine Cfg.condT rfl (b := true) (by kernel_rfl) rfl ?_
  refine Cfg.begL rfl ?_
  refine CfgL.pure 3 [] (some [16, 18]) (Γ' := [(18, [], .int .u8 (sbyte ⟨#[32]⟩ (0 : Int))), (16, [], .string t)]) (nd := (fun _ => [(0 ≤ (0 : Int) ∧ (0 : Int) < (1 : Int))])) (by kernel_rfl) (fun _ => by kernel_rfl) ⟨(by omega), trivial⟩ ?_
  refine CfgL.eff (o := _) rfl (by kernel_rfl) (by kernel_rfl) (Eff.callE (vs := [.string t, .int .u8 (sbyte ⟨#[32]⟩ (0 : Int))]) (.int .i64 ((t.data.toList.count 32) : Int)) (e := Extern.BytealgCount.count) rfl Tryd.func51 rfl rfl (by kernel_rfl) (by kernel_rfl) (by kernel_rfl) (fun w1 h => Lib.run_countString (P := Tryd.prog) t 32 w1)) ?_
  rintro ⟨⟩ -
  refine CfgL.pure 1 [] (some [4]) (Γ' := [(4, [], .int .i64 ((t.data.toList.count 32) : Int))]) (nd := (fun _ => [])) (by kernel_rfl) (fun _ => by kernel_rfl) trivial ?_
  refine CfgL.done rfl ?_
  refine Cfg.ret rfl (rs := [.tmp 4]) rfl [.int .i64 ((t.data.toList.count 32) : Int)] ⟨by kernel_rfl, trivial⟩ (fun w1 hp => ?_)
  exact ⟨rfl, hp.ext⟩

end Go.Proofs.YtoopekjbikcebaaDoor
