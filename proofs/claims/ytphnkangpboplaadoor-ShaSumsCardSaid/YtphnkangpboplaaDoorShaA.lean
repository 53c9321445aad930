/- The chapter's example of the digest. Condition: the rounds lie in their block. -/
import Derived.Test.YtphnkangpboplaaDoorSha6
import Derived.Test.YtphnkangpboplaaDoorHex
namespace Go.Proofs.YtphnkangpboplaaDoor
open K
set_option linter.unusedVariables false

def abcD : List UInt8 := [186, 120, 22, 191, 143, 1, 207, 234, 65, 65, 64, 222, 93, 174, 34, 35, 176, 3, 97, 163, 150, 23, 122, 156, 180, 16, 255, 97, 242, 0, 21, 173]
set_option maxRecDepth 100000 in
theorem shaD_abc : shaD (cat [⟨#[97, 98, 99]⟩]) = abcD := by kernel_rfl
theorem inS_lit (bk : Nat) (t : TypeId) (fr : Nat × Nat) (ss : List ByteArray) : InS [(bk, .cells (ss.map Value.string).toArray t fr)] (some ⟨bk, 0, none⟩) ss.length (fun j => .string (sat ss j)) := by
  intro _
  refine ⟨bk, 0, _, t, fr, rfl, List.mem_singleton.2 rfl, fun j hj => ?_⟩
  rw [Nat.zero_add]
  simp [sat, List.getElem?_eq_getElem hj]
theorem has_two {w w0 : World} {M : List Nat} {R O : List (Nat × Obj)} (h : HP w0 M R O w) {x y : Nat × Obj} (hx : x ∈ R) (hy : y ∈ O) : Has w (x :: [y]) := by
  intro e he
  rcases List.mem_cons.1 he with rfl | he
  · exact h.ro _ hx
  · rw [List.mem_singleton.1 he]; exact h.own _ hy
theorem cat_split (s : ByteArray) {i k : Nat} (hik : i ≤ k) (hk : k ≤ s.size) : cat [s.extract 0 i, s.extract i k, s.extract k s.size] = cat [s] := by
  have h1 : ∀ a b, (s.extract a b).data.toList = (s.data.toList.drop a).take (b - a) := fun a b => by
    rw [ByteArray.data_extract, Array.toList_extract, List.extract_eq_take_drop]
  have hl : s.size = s.data.toList.length := by simp
  simp only [cat, List.flatMap_cons, List.flatMap_nil, List.append_nil, h1]
  rw [List.drop_zero, Nat.sub_zero, List.take_of_length_le (i := s.size - k) (by simp)]
  have h2 : s.data.toList.drop k = (s.data.toList.drop i).drop (k - i) := by rw [List.drop_drop]; congr 1; omega
  rw [h2, List.take_append_drop, List.take_append_drop]
theorem cat_last (s : ByteArray) : cat [s, ⟨#[]⟩] = cat [s] := by simp [cat]
theorem modfit {x y : Int} (hy : 0 < y) (hy2 : y ≤ 9223372036854775807) : (-9223372036854775808 : Int) ≤ x % y ∧ x % y ≤ 9223372036854775807 := by
  have h1 := Int.emod_nonneg x (b := y) (by omega)
  have h2 := Int.emod_lt_of_pos x hy
  omega

set_option maxRecDepth 100000 in
theorem shaAwake {t0 : TypeId} {fr0 : Nat × Nat} (w : World) (hR : Has w [(0, .cells (wv Kc) t0 fr0)]) :
    Calls Tryd.prog 6 #[] w fun e w' => e = .returned (.bool true) ∧ Ext [] w w' := by
  have hK : KT (wv Kc) := fun t h => kget h
  refine enter (vs := []) [] [(0, .cells (wv Kc) t0 fr0)] [] Tryd.func6 rfl (by kernel_rfl) (HP.ofHas hR) ?_
  refine Cfg.reg rfl [] [] (Γ' := []) (nd := (fun _ => [])) (fun _ => by kernel_rfl) trivial ?_
  refine Cfg.begL rfl ?_
  refine CfgL.eff (o := _) rfl (by kernel_rfl) (by kernel_rfl) (Eff.buildSlice (e := 9) (cells := #[.string ⟨#[97, 98, 99]⟩]) (parts := #[(0, .string ⟨#[97, 98, 99]⟩)]) rfl (by kernel_rfl) (fun _ => by kernel_rfl)) ?_
  rintro bs ⟨hbs, nbs⟩
  refine CfgL.eff (o := _) rfl (by kernel_rfl) (by kernel_rfl) (Eff.callA (vs := [.slice (some ⟨bs, 0, none⟩) 1 1]) (.agg (bv abcD)) rfl Tryd.func7 rfl rfl (by kernel_rfl) (fun w1 h => shaD_abc ▸ shaSum (some ⟨bs, 0, none⟩) 1 [⟨#[97, 98, 99]⟩] [(bs, .cells (List.map Value.string [⟨#[97, 98, 99]⟩]).toArray 9 (0, 0))] w1 (inS_lit bs 9 (0, 0) [⟨#[97, 98, 99]⟩]) (Nat.le_of_ble_eq_true rfl) (has_two h (List.mem_cons_self ..) (List.mem_of_getElem? (i := 0) rfl)))) ?_
  rintro ⟨⟩ -
  refine CfgL.eff (o := _) rfl (by kernel_rfl) (by kernel_rfl) (Eff.alloc (z := (.agg (bv (List.replicate 32 0)))) rfl (by kernel_rfl)) ?_
  rintro d ⟨hd, nd⟩
  refine CfgL.eff (o := _) rfl (by kernel_rfl) (by kernel_rfl) (Eff.storeN (b := d) (off := 0) (vs := (bv abcD)) (n := 32) rfl (by kernel_rfl) (by kernel_rfl) (by kernel_rfl) rfl (all_bv _) 0 (cs := (bv (List.replicate 32 0))) (e := 25) (by kernel_rfl) (Nat.le_refl 32)) ?_
  rintro ⟨⟩ -
  refine CfgL.setO (O' := [(d, .cells (bv abcD) 25 (0, 0)), (bs, .cells #[.string ⟨#[97, 98, 99]⟩] 9 (0, 0))]) (congrArg (fun (xq : Array Value) => ([(d, .cells xq 25 (0, 0)), (bs, .cells #[.string ⟨#[97, 98, 99]⟩] 9 (0, 0))] : List (Nat × Obj))) (spl_all rfl)) ?_
  refine CfgL.done rfl ?_
  refine Conv.cfg (Γ' := [(1, [], .pointer (some ⟨d, 0, none⟩))]) (Conv.mk (by kernel_rfl)) ?_
  refine Cfg.begL rfl ?_
  refine CfgL.pure 19 [(0, false, none), (0, false, some (.int .u8 186)), (0, false, none), (0, false, none), (0, false, none), (0, false, some (.int .u8 120)), (0, false, none), (0, false, none), (0, false, none), (0, false, none), (0, false, some (.int .u8 22)), (0, false, none), (0, false, none), (0, false, none), (0, false, none), (0, false, some (.int .u8 191))] none (Γ' := [(22, [], .bool (((((186 : Int) == (186 : Int)) && ((120 : Int) == (120 : Int))) && ((22 : Int) == (22 : Int))) && ((191 : Int) == (191 : Int)))), (21, [], .bool (((((186 : Int) == (186 : Int)) && ((120 : Int) == (120 : Int))) && ((22 : Int) == (22 : Int))) && ((191 : Int) == (191 : Int)))), (20, [(17, true)], .bool ((191 : Int) == (191 : Int))), (19, [(17, true)], .int .u8 191), (18, [(17, true)], .pointer (some ⟨d, 3, none⟩)), (17, [], .bool ((((186 : Int) == (186 : Int)) && ((120 : Int) == (120 : Int))) && ((22 : Int) == (22 : Int)))), (16, [], .bool ((((186 : Int) == (186 : Int)) && ((120 : Int) == (120 : Int))) && ((22 : Int) == (22 : Int)))), (15, [(12, true)], .bool ((22 : Int) == (22 : Int))), (14, [(12, true)], .int .u8 22), (13, [(12, true)], .pointer (some ⟨d, 2, none⟩)), (12, [], .bool (((186 : Int) == (186 : Int)) && ((120 : Int) == (120 : Int)))), (11, [], .bool (((186 : Int) == (186 : Int)) && ((120 : Int) == (120 : Int)))), (10, [(7, true)], .bool ((120 : Int) == (120 : Int))), (9, [(7, true)], .int .u8 120), (8, [(7, true)], .pointer (some ⟨d, 1, none⟩)), (7, [], .bool ((186 : Int) == (186 : Int))), (6, [], .bool ((186 : Int) == (186 : Int))), (5, [], .int .u8 186), (4, [], .pointer (some ⟨d, 0, none⟩)), (1, [], .pointer (some ⟨d, 0, none⟩))]) (nd := (fun S => [(0 ≤ (0 : Int) ∧ (0 : Int) < (32 : Int)), (∀ w1, S w1 → w1.cell? ⟨d, 0, none⟩ = some (.int .u8 186)), ((.bool ((186 : Int) == (186 : Int)) : Value) = .bool true → (0 ≤ (1 : Int) ∧ (1 : Int) < (32 : Int))), ((.bool ((186 : Int) == (186 : Int)) : Value) = .bool true → (∀ w1, S w1 → w1.cell? ⟨d, 1, none⟩ = some (.int .u8 120))), ((.bool (((186 : Int) == (186 : Int)) && ((120 : Int) == (120 : Int))) : Value) = .bool true → (0 ≤ (2 : Int) ∧ (2 : Int) < (32 : Int))), ((.bool (((186 : Int) == (186 : Int)) && ((120 : Int) == (120 : Int))) : Value) = .bool true → (∀ w1, S w1 → w1.cell? ⟨d, 2, none⟩ = some (.int .u8 22))), ((.bool ((((186 : Int) == (186 : Int)) && ((120 : Int) == (120 : Int))) && ((22 : Int) == (22 : Int))) : Value) = .bool true → (0 ≤ (3 : Int) ∧ (3 : Int) < (32 : Int))), ((.bool ((((186 : Int) == (186 : Int)) && ((120 : Int) == (120 : Int))) && ((22 : Int) == (22 : Int))) : Value) = .bool true → (∀ w1, S w1 → w1.cell? ⟨d, 3, none⟩ = some (.int .u8 191)))])) (by kernel_rfl) (fun _ => by kernel_rfl) ⟨(by omega), (fun w1 h => h.ocell 0 rfl rfl), (fun g0 => have q0 : ((186 : Int) = (186 : Int)) := (beq_iff_eq.1 (boolV g0)); (by omega)), (fun g0 => have q0 : ((186 : Int) = (186 : Int)) := (beq_iff_eq.1 (boolV g0)); (fun w1 h => h.ocell 0 rfl rfl)), (fun g0 => have q0 : (((186 : Int) = (186 : Int)) ∧ ((120 : Int) = (120 : Int))) := ⟨(beq_iff_eq.1 (andT1 (boolV g0))), (beq_iff_eq.1 (andT2 (boolV g0)))⟩; (by omega)), (fun g0 => have q0 : (((186 : Int) = (186 : Int)) ∧ ((120 : Int) = (120 : Int))) := ⟨(beq_iff_eq.1 (andT1 (boolV g0))), (beq_iff_eq.1 (andT2 (boolV g0)))⟩; (fun w1 h => h.ocell 0 rfl rfl)), (fun g0 => have q0 : ((((186 : Int) = (186 : Int)) ∧ ((120 : Int) = (120 : Int))) ∧ ((22 : Int) = (22 : Int))) := ⟨⟨(beq_iff_eq.1 (andT1 (andT1 (boolV g0)))), (beq_iff_eq.1 (andT2 (andT1 (boolV g0))))⟩, (beq_iff_eq.1 (andT2 (boolV g0)))⟩; (by omega)), (fun g0 => have q0 : ((((186 : Int) = (186 : Int)) ∧ ((120 : Int) = (120 : Int))) ∧ ((22 : Int) = (22 : Int))) := ⟨⟨(beq_iff_eq.1 (andT1 (andT1 (boolV g0)))), (beq_iff_eq.1 (andT2 (andT1 (boolV g0))))⟩, (beq_iff_eq.1 (andT2 (boolV g0)))⟩; (fun w1 h => h.ocell 0 rfl rfl)), trivial⟩ ?_
  refine CfgL.known 22 (b := (((((186 : Int) == (186 : Int)) && ((120 : Int) == (120 : Int))) && ((22 : Int) == (22 : Int))) && ((191 : Int) == (191 : Int)))) (by kernel_rfl) true (by kernel_rfl) ?_
  refine CfgL.pure 1 [(1, false, some (.agg (bv abcD)))] none (Γ' := [(23, [], .agg (bv abcD)), (22, [], .bool true), (21, [], .bool (((((186 : Int) == (186 : Int)) && ((120 : Int) == (120 : Int))) && ((22 : Int) == (22 : Int))) && ((191 : Int) == (191 : Int)))), (20, [(17, true)], .bool ((191 : Int) == (191 : Int))), (19, [(17, true)], .int .u8 191), (18, [(17, true)], .pointer (some ⟨d, 3, none⟩)), (17, [], .bool ((((186 : Int) == (186 : Int)) && ((120 : Int) == (120 : Int))) && ((22 : Int) == (22 : Int)))), (16, [], .bool ((((186 : Int) == (186 : Int)) && ((120 : Int) == (120 : Int))) && ((22 : Int) == (22 : Int)))), (15, [(12, true)], .bool ((22 : Int) == (22 : Int))), (14, [(12, true)], .int .u8 22), (13, [(12, true)], .pointer (some ⟨d, 2, none⟩)), (12, [], .bool (((186 : Int) == (186 : Int)) && ((120 : Int) == (120 : Int)))), (11, [], .bool (((186 : Int) == (186 : Int)) && ((120 : Int) == (120 : Int)))), (10, [(7, true)], .bool ((120 : Int) == (120 : Int))), (9, [(7, true)], .int .u8 120), (8, [(7, true)], .pointer (some ⟨d, 1, none⟩)), (7, [], .bool ((186 : Int) == (186 : Int))), (6, [], .bool ((186 : Int) == (186 : Int))), (5, [], .int .u8 186), (4, [], .pointer (some ⟨d, 0, none⟩)), (1, [], .pointer (some ⟨d, 0, none⟩))]) (nd := (fun S => [((.bool true : Value) = .bool true), (∀ w1, S w1 → (loadVar 25 ⟨d, 0, none⟩).run Tryd.prog w1 = .ok (.agg (bv abcD)) w1)])) (by kernel_rfl) (fun _ => by kernel_rfl) ⟨rfl, (fun w1 h => h.oload 0 rfl Tryd.underlying25 rfl (n := 32) (by kernel_rfl) ((bv_size _).trans rfl)), trivial⟩ ?_
  refine CfgL.eff (o := _) rfl (by kernel_rfl) (by kernel_rfl) (Eff.callA (vs := [.agg (bv abcD)]) (.string (hexS abcD)) rfl Tryd.func9 rfl rfl (by kernel_rfl) (fun w1 h => shaHex abcD w1 rfl)) ?_
  rintro ⟨⟩ -
  refine CfgL.pure 4 [(1, false, none), (1, false, none)] (some [0]) (Γ' := [(0, [], .bool (((hexS abcD).size : Int) == (64 : Int)))]) (nd := (fun _ => [((.bool true : Value) = .bool true), ((.bool true : Value) = .bool true)])) (by kernel_rfl) (fun _ => by kernel_rfl) ⟨rfl, rfl, trivial⟩ ?_
  refine CfgL.done rfl ?_
  refine Cfg.ret rfl (rs := [.tmp 0]) rfl [.bool (((hexS abcD).size : Int) == (64 : Int))] ⟨by kernel_rfl, trivial⟩ (fun w1 hp => ?_)
  exact ⟨congrArg (fun b => Ending.returned (.bool b)) (by kernel_rfl), hp.ext⟩

end Go.Proofs.YtphnkangpboplaaDoor
