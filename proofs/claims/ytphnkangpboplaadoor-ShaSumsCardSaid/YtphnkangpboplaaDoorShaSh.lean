/- sha.Short gives the first eight bytes as one number. Condition: the rounds lie in their block. -/
import Derived.Test.YtphnkangpboplaaDoorShaA
import Derived.Test.YtphnkangpboplaaDoorK12
namespace Go.Proofs.YtphnkangpboplaaDoor
open K
set_option linter.unusedVariables false

/-- The first i bytes as one number. -/
def shN (l : List UInt8) : Nat → Nat
  | 0 => 0
  | i + 1 => shN l i * 256 + bt4 l i
theorem shN_lt (l : List UInt8) : ∀ i, shN l i < 256 ^ i
  | 0 => by simp [shN]
  | i + 1 => by
    have := shN_lt l i
    have h2 := bt4_lt l i
    rw [shN, Nat.pow_succ]; omega
theorem shN_small (l : List UInt8) {i : Nat} (h : i < 8) : shN l i < 72057594037927936 :=
  Nat.lt_of_lt_of_le (shN_lt l i) (Nat.le_trans (Nat.pow_le_pow_right (by decide) (show i ≤ 7 by omega)) (by decide))
theorem tm64 (x : Int) : (x % 18446744073709551616).toNat < 2 ^ 64 := by omega
theorem b464 (bl : List UInt8) (i : Nat) : bt4 bl i < 2 ^ 64 := Nat.lt_trans (bt4_lt bl i) (by decide)
theorem sh_add (l : List UInt8) {i : Nat} (h : i < 8) : (((((shN l i : Int) * 256) % 18446744073709551616) + (bt4 l i : Int)) % 18446744073709551616) = ((shN l (i + 1) : Nat) : Int) := by
  have h1 := shN_small l h
  have h2 := bt4_lt l i
  rw [shN]; omega
theorem sh_or (l : List UInt8) {i : Nat} (h : i < 8) : ((((((shN l i : Int) * 256) % 18446744073709551616)).toNat ||| ((bt4 l i : Int)).toNat : Nat) : Int) = ((shN l (i + 1) : Nat) : Int) := by
  have h1 := shN_small l h
  have h2 := bt4_lt l i
  rw [show (((shN l i : Int) * 256) % 18446744073709551616).toNat = 2 ^ 8 * shN l i by omega, Int.toNat_natCast, ← Nat.two_pow_add_eq_or_of_lt (by omega), shN]
  omega
theorem dcell (l : List UInt8) {i : Nat} (h : i < 8) : (bv (shaD l))[i]? = some (.int .u8 ((bt4 (shaD l) i : Nat) : Int)) := bv_get (n := 32) (shaD_len _) (by omega)

set_option maxRecDepth 100000 in
theorem shaShort (la : Option Addr) (cap : Nat) (ss : List ByteArray) (Rl : List (Nat × Obj)) {kt : Array Value} {t0 : TypeId} {fr0 : Nat × Nat} (w : World) (hI : InS Rl la ss.length (fun j => .string (sat ss j))) (hn : ss.length ≤ maxLen) (hR : Has w ((0, .cells kt t0 fr0) :: Rl)) (hK : KT kt := by assumption) :
    Calls Tryd.prog 14 #[.slice la ss.length cap] w fun e w' => e = .returned (.int .u64 (shN (shaD (cat ss)) 8 : Int)) ∧ Ext [] w w' := by
  refine enter (vs := [.slice la ss.length cap]) [] ((0, .cells kt t0 fr0) :: Rl) [] Tryd.func14 rfl (by kernel_rfl) (HP.ofHas hR) ?_
  refine Cfg.reg rfl [0] [] (Γ' := [(0, [], .slice la ss.length cap)]) (nd := (fun _ => [])) (fun _ => by kernel_rfl) trivial ?_
  refine Cfg.begL rfl ?_
  refine CfgL.pure 1 [] none (Γ' := [(6, [], .slice la ss.length cap), (0, [], .slice la ss.length cap)]) (nd := (fun _ => [])) (by kernel_rfl) (fun _ => by kernel_rfl) trivial ?_
  refine CfgL.eff (o := _) rfl (by kernel_rfl) (by kernel_rfl) (Eff.callA (vs := [.slice la ss.length cap]) (.agg (bv (shaD (cat ss)))) rfl Tryd.func7 rfl rfl (by kernel_rfl) (fun w1 h => shaSum la cap ss Rl w1 hI hn (h.hasR (fun e he => he)))) ?_
  rintro ⟨⟩ -
  refine CfgL.eff (o := _) rfl (by kernel_rfl) (by kernel_rfl) (Eff.alloc (z := (.agg (bv (List.replicate 32 0)))) rfl (by kernel_rfl)) ?_
  rintro d ⟨hd, nd⟩
  refine CfgL.eff (o := _) rfl (by kernel_rfl) (by kernel_rfl) (Eff.storeN (b := d) (off := 0) (vs := (bv (shaD (cat ss)))) (n := 32) rfl (by kernel_rfl) (by kernel_rfl) (by kernel_rfl) (dz _) (all_bv _) 0 (cs := (bv (List.replicate 32 0))) (e := 25) (by kernel_rfl) (by rw [zsz]; omega)) ?_
  rintro ⟨⟩ -
  refine CfgL.setO (O' := [(d, .cells (bv (shaD (cat ss))) 25 (0, 0))]) (congrArg (fun (xq : Array Value) => ([(d, .cells xq 25 (0, 0))] : List (Nat × Obj))) (spl_all ((dz _).trans zsz.symm))) ?_
  refine CfgL.done rfl ?_
  refine Conv.cfg (Γ' := [(3, [], .pointer (some ⟨d, 0, none⟩))]) (Conv.mk (by kernel_rfl)) ?_
  refine Cfg.reg rfl [3, 4] [] (Γ' := [(4, [], .int .u64 0), (3, [], .pointer (some ⟨d, 0, none⟩))]) (nd := (fun _ => [])) (fun _ => by kernel_rfl) trivial ?_
  refine Cfg.reg rfl [3, 4, 8] [] (Γ' := [(8, [], .int .i64 0), (4, [], .int .u64 0), (3, [], .pointer (some ⟨d, 0, none⟩))]) (nd := (fun _ => [])) (fun _ => by kernel_rfl) trivial ?_
  refine Cfg.loop rfl (ι := Nat) (fun (i : Nat) => [(8, [], .int .i64 (i : Int)), (4, [], .int .u64 (shN (shaD (cat ss)) i : Int)), (3, [], .pointer (some ⟨d, 0, none⟩))]) (fun (i : Nat) => [(d, .cells (bv (shaD (cat ss))) 25 (0, 0))]) (fun (i : Nat) => (i ≤ 8)) (fun (i : Nat) => 8 - i) 0 ?_ (Conv.mk (by kernel_rfl)) (.cons_cons _ .slnil) ?_
  · exact Nat.zero_le _
  · rintro i hi
    refine Cfg.reg rfl [3, 4, 8, 9] [] (Γ' := [(9, [], .bool (decide ((i : Int) < (8 : Int)))), (8, [], .int .i64 (i : Int)), (4, [], .int .u64 (shN (shaD (cat ss)) i : Int)), (3, [], .pointer (some ⟨d, 0, none⟩))]) (nd := (fun _ => [])) (fun _ => by kernel_rfl) trivial ?_
    refine Cfg.cond rfl (b := (decide ((i : Int) < (8 : Int)))) (by kernel_rfl) (fun c1r => ?_) (fun c1r => ?_)
    · have c1 : ((i : Int) < (8 : Int)) := (of_decide_eq_true c1r)
      refine Cfg.reg rfl [3, 4, 5, 8] [] (Γ' := [(5, [], .int .i64 (i : Int)), (8, [], .int .i64 (i : Int)), (4, [], .int .u64 (shN (shaD (cat ss)) i : Int)), (3, [], .pointer (some ⟨d, 0, none⟩))]) (nd := (fun _ => [])) (fun _ => by kernel_rfl) trivial ?_
      refine Cfg.reg rfl [3, 4, 8] [(0, false, none), (0, false, none), (0, false, none), (0, false, none), (0, false, some (.int .u8 (bt4 (shaD (cat ss)) i : Int)))] (Γ' := [(4, [], .int .u64 ((((((shN (shaD (cat ss)) i : Int) * 256) % 18446744073709551616)).toNat ||| ((bt4 (shaD (cat ss)) i : Int)).toNat : Nat) : Int)), (8, [], .int .i64 (i : Int)), (3, [], .pointer (some ⟨d, 0, none⟩))]) (nd := (fun S => [(0 ≤ (8 : Int) ∧ 8 ≤ 64), (0 ≤ (i : Int) ∧ (i : Int) < (32 : Int)), (∀ w1, S w1 → w1.cell? ⟨d, i, none⟩ = some (.int .u8 (bt4 (shaD (cat ss)) i : Int))), ((0 : Int) ≤ (bt4 (shaD (cat ss)) i : Int) ∧ (bt4 (shaD (cat ss)) i : Int) ≤ 18446744073709551615), ((0 ≤ (((shN (shaD (cat ss)) i : Int) * 256) % 18446744073709551616) ∧ (((shN (shaD (cat ss)) i : Int) * 256) % 18446744073709551616) ≤ 18446744073709551615) ∧ 0 ≤ (bt4 (shaD (cat ss)) i : Int) ∧ (bt4 (shaD (cat ss)) i : Int) ≤ 18446744073709551615)])) (fun _ => by kernel_rfl) ⟨(by omega), (by omega), (fun w1 h => h.ocell 0 rfl (dcell _ (by omega))), (by have := bt4_lt (shaD (cat ss)) i; omega), ⟨⟨by omega, by omega⟩, ⟨Int.natCast_nonneg _, le_pow (b := 64) (b464 _ _)⟩⟩, trivial⟩ ?_
      refine Cfg.reg rfl [3, 4, 8] [] (Γ' := [(8, [], .int .i64 ((i : Int) + 1)), (4, [], .int .u64 ((((((shN (shaD (cat ss)) i : Int) * 256) % 18446744073709551616)).toNat ||| ((bt4 (shaD (cat ss)) i : Int)).toNat : Nat) : Int)), (3, [], .pointer (some ⟨d, 0, none⟩))]) (nd := (fun _ => [((-9223372036854775808 : Int) ≤ ((i : Int) + 1) ∧ ((i : Int) + 1) ≤ 9223372036854775807)])) (fun _ => by kernel_rfl) ⟨(by omega), trivial⟩ ?_
      refine Cfg.setG (Γ' := [(8, [], .int .i64 ((i : Int) + 1)), (4, [], .int .u64 (shN (shaD (cat ss)) (i + 1) : Int)), (3, [], .pointer (some ⟨d, 0, none⟩))]) (congrArg (fun (xq : Int) => ([(8, [], .int .i64 ((i : Int) + 1)), (4, [], .int .u64 xq), (3, [], .pointer (some ⟨d, 0, none⟩))] : Env)) (sh_or _ (by omega))) ?_
      refine Cfg.again rfl (i + 1) (by show i + 1 ≤ 8; omega) (by show 8 - (i + 1) < 8 - i; omega) (Conv.mk (by kernel_rfl)) (.cons_cons _ .slnil)
    · have c1 : (¬ ((i : Int) < (8 : Int))) := (of_decide_eq_false c1r)
      obtain rfl : i = 8 := by omega
      refine Conv.cfg (Γ' := [(4, [], .int .u64 (shN (shaD (cat ss)) 8 : Int)), (3, [], .pointer (some ⟨d, 0, none⟩))]) (Conv.mk (by kernel_rfl)) ?_
      refine Cfg.reg rfl [2] [] (Γ' := [(2, [], .int .u64 (shN (shaD (cat ss)) 8 : Int))]) (nd := (fun _ => [])) (fun _ => by kernel_rfl) trivial ?_
      refine Cfg.ret rfl (rs := [.tmp 2]) rfl [.int .u64 (shN (shaD (cat ss)) 8 : Int)] ⟨by kernel_rfl, trivial⟩ (fun w1 hp => ?_)
      exact ⟨rfl, hp.ext⟩

end Go.Proofs.YtphnkangpboplaaDoor
