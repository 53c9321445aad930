/- script: the document's steps of a text. -/
import Derived.Test.YtoopekjbikcebaaDoorScD
import Derived.Test.YtoopekjbikcebaaDoorK20
namespace Go.Proofs.YtoopekjbikcebaaDoor
open K
set_option linter.unusedVariables false

theorem numA_le {l : List UInt8} (a : Int) : -1 ≤ (numA l a).2 ∧ (numA l a).2 ≤ (l.length : Int) := by
  unfold numA
  split
  · exact ⟨by decide, by show (-1 : Int) ≤ _; omega⟩
  · rename_i h
    split
    · have h1 := takeWhile_len isD (l.drop (a.toNat + 1))
      rw [List.length_drop] at h1
      have h2 : 0 ≤ a ∧ a < (l.length : Int) := by omega
      show -1 ≤ a + 1 + _ ∧ a + 1 + _ ≤ _
      omega
    · exact ⟨by decide, by show (-1 : Int) ≤ _; omega⟩
theorem numA_range (t : ByteArray) (a : Int) (h : t.data.toList.length = t.size) : -1 ≤ (numA t.data.toList a).2 ∧ (numA t.data.toList a).2 ≤ (t.size : Int) := by
  rw [← h]; exact numA_le a
theorem beq_dec (a b : Int) : (a == b) = decide (a = b) := rfl
theorem oneV_yes {l : List UInt8} (h : (oneV l).2 = true) : oneR l = some (oneV l).1 := by rw [oneV_ok, if_pos h]
theorem oneV_no {l : List UInt8} (h : (oneV l).2 = false) : oneR l = none := by rw [oneV_ok, h]; rfl
theorem piece_len {l : List UInt8} {f i : Nat} (h : f ≤ i) (hi : i ≤ l.length) : ((l.drop f).take (i - f)).length = i - f := by rw [List.length_take, List.length_drop]; omega
theorem piece_next {l : List UInt8} {f i : Nat} (h : f ≤ i) (hi : i < l.length) : (l.drop f).take (i + 1 - f) = (l.drop f).take (i - f) ++ [l.getD i 0] := by
  have e : (l.drop f).getD (i - f) 0 = l.getD i 0 := by rw [List.getD_eq_getElem?_getD, List.getD_eq_getElem?_getD, List.getElem?_drop, show f + (i - f) = i by omega]
  have h1 : i - f < (l.drop f).length := by rw [List.length_drop]; omega
  rw [show i + 1 - f = (i - f) + 1 by omega, List.take_succ_eq_append_getElem h1, ← e, List.getD_eq_getElem?_getD, List.getElem?_eq_getElem h1]; rfl
theorem parse_step {l : List UInt8} {f i : Nat} {line : Nat} {acc : List Stp} (h : f ≤ i) (hi : i < l.length) (hi2 : i < l.length) (h10 : l.getD i 0 ≠ 10) : parseA ((l.drop f).take (i - f)) line acc (l.drop i) = parseA ((l.drop f).take (i + 1 - f)) line acc (l.drop (i + 1)) := by
  rw [drop_head hi, piece_next h hi]
  show (if l.getD i 0 = 10 then _ else _) = _
  rw [if_neg h10]
theorem parse_ten {l : List UInt8} {f i : Nat} {line : Nat} {acc : List Stp} {s : Stp} (h : f ≤ i) (hi : i < l.length) (h10 : l.getD i 0 = 10) (ho : oneR ((l.drop f).take (i - f)) = some s) : parseA ((l.drop f).take (i - f)) line acc (l.drop i) = parseA ((l.drop (i + 1)).take (i + 1 - (i + 1))) (line + 1) (acc ++ [s]) (l.drop (i + 1)) := by
  rw [drop_head hi, Nat.sub_self, List.take_zero]
  show (if l.getD i 0 = 10 then (match oneR ((l.drop f).take (i - f)) with | none => ([], line, 60) | some s => parseA [] (line + 1) (acc ++ [s]) (l.drop (i + 1))) else _) = _
  rw [if_pos h10, ho]
theorem parse_stop {l : List UInt8} {f i : Nat} {line : Nat} {acc : List Stp} (h : f ≤ i) (hi : i < l.length) (h10 : l.getD i 0 = 10) (ho : oneR ((l.drop f).take (i - f)) = none) : parseA ((l.drop f).take (i - f)) line acc (l.drop i) = ([], line, 60) := by
  rw [drop_head hi]
  show (if l.getD i 0 = 10 then (match oneR ((l.drop f).take (i - f)) with | none => ([], line, 60) | some s => parseA [] (line + 1) (acc ++ [s]) (l.drop (i + 1))) else _) = _
  rw [if_pos h10, ho]
theorem parse_open {l : List UInt8} {f i : Nat} {line : Nat} {acc : List Stp} (hi : l.length ≤ i) (hf : f < l.length ∧ f ≤ i) : parseA ((l.drop f).take (i - f)) line acc (l.drop i) = ([], line, 60) := by
  rw [List.drop_eq_nil_of_le hi]
  show (if (l.drop f).take (i - f) = [] then _ else _) = _
  rw [if_neg]
  intro hx
  have h1 : ((l.drop f).take (i - f)).length = 0 := by rw [hx]; rfl
  rw [List.length_take, List.length_drop] at h1; omega
theorem parse_end {l : List UInt8} {f i : Nat} {line : Nat} {acc : List Stp} (hi : l.length ≤ i) (hf : l.length ≤ f) : parseA ((l.drop f).take (i - f)) line acc (l.drop i) = (acc, 0, 0) := by
  rw [List.drop_eq_nil_of_le hi, List.drop_eq_nil_of_le hf, List.take_nil]
  rfl

set_option maxRecDepth 100000 in
set_option maxHeartbeats 1000000 in
theorem rOne (t : ByteArray) (w : World) (hn : t.size ≤ maxLen) :
    Calls Tryd.prog 21 #[.string t] w fun e w' => e = .returned (.tuple #[.agg (stL (oneV t.data.toList).1).toArray, .bool (oneV t.data.toList).2]) ∧ Ext [] w w' := by
  have hlen := ba_len t
  have hwl : wdL t.data.toList ≤ t.size := by rw [← hlen]; exact takeWhile_len _ _
  have hn0 := hn
  unfold maxLen at hn
  obtain ⟨kd, hkd⟩ : ∃ k, k = kdL t.data.toList := ⟨_, rfl⟩
  obtain ⟨wl, hw0⟩ : ∃ k, k = wdL t.data.toList := ⟨_, rfl⟩
  rw [← hw0] at hwl
  obtain ⟨y0, hy0⟩ : ∃ y, y = numA t.data.toList (wl : Int) := ⟨_, rfl⟩
  obtain ⟨y1, hy1⟩ : ∃ y, y = numA t.data.toList y0.2 := ⟨_, rfl⟩
  obtain ⟨y2, hy2⟩ : ∃ y, y = numA t.data.toList y1.2 := ⟨_, rfl⟩
  obtain ⟨y3, hy3⟩ : ∃ y, y = numA t.data.toList y2.2 := ⟨_, rfl⟩
  obtain ⟨y4, hy4⟩ : ∃ y, y = numA t.data.toList y3.2 := ⟨_, rfl⟩
  have r0 : -1 ≤ y0.2 ∧ y0.2 ≤ (t.size : Int) := by rw [hy0]; exact numA_range t _ hlen
  have r1 : -1 ≤ y1.2 ∧ y1.2 ≤ (t.size : Int) := by rw [hy1]; exact numA_range t _ hlen
  have r2 : -1 ≤ y2.2 ∧ y2.2 ≤ (t.size : Int) := by rw [hy2]; exact numA_range t _ hlen
  have r3 : -1 ≤ y3.2 ∧ y3.2 ≤ (t.size : Int) := by rw [hy3]; exact numA_range t _ hlen
  have r4 : -1 ≤ y4.2 ∧ y4.2 ≤ (t.size : Int) := by rw [hy4]; exact numA_range t _ hlen
  refine enter (vs := [.string t]) [] [] [] Tryd.func21 rfl (by kernel_rfl) (HP.start w) ?_
  refine Cfg.begL rfl ?_
  refine CfgL.eff (o := _) rfl (by kernel_rfl) (by kernel_rfl) (Eff.alloc (z := (.agg #[.int .i64 0, .int .u32 0, .int .u32 0, .int .u32 0, .int .u32 0, .int .u32 0])) rfl (by kernel_rfl)) ?_
  rintro rs ⟨hrs, nrs⟩
  refine CfgL.pure 1 [] (some [0, 2]) (Γ' := [(2, [], .pointer (some ⟨rs, 0, none⟩)), (0, [], .string t)]) (nd := (fun _ => [])) (by kernel_rfl) (fun _ => by kernel_rfl) trivial ?_
  refine CfgL.done rfl ?_
  refine Cfg.begL rfl ?_
  refine CfgL.eff (o := _) rfl (by kernel_rfl) (by kernel_rfl) (Eff.alloc (z := (.agg #[.int .i64 0, .int .u32 0, .int .u32 0, .int .u32 0, .int .u32 0, .int .u32 0])) rfl (by kernel_rfl)) ?_
  rintro sb ⟨hsb, nsb⟩
  refine CfgL.done rfl ?_
  refine Cfg.begL rfl ?_
  refine CfgL.pure 1 [] none (Γ' := [(8, [], .string t), (4, [], .pointer (some ⟨sb, 0, none⟩)), (2, [], .pointer (some ⟨rs, 0, none⟩)), (0, [], .string t)]) (nd := (fun _ => [])) (by kernel_rfl) (fun _ => by kernel_rfl) trivial ?_
  refine CfgL.eff (o := _) rfl (by kernel_rfl) (by kernel_rfl) (Eff.callA (vs := [.string t]) (.tuple #[.int .i64 kd, .int .i64 (wl : Int)]) rfl Tryd.func29 rfl rfl (by kernel_rfl) (fun w1 _ => by have h9 := rWord t w1 hn0; rw [← hkd, ← hw0] at h9; exact h9)) ?_
  rintro ⟨⟩ -
  refine CfgL.pure 5 [] (some [0, 2, 4, 5, 6]) (Γ' := [(6, [], .int .i64 (wl : Int)), (5, [], .int .i64 kd), (4, [], .pointer (some ⟨sb, 0, none⟩)), (2, [], .pointer (some ⟨rs, 0, none⟩)), (0, [], .string t)]) (nd := (fun _ => [])) (by kernel_rfl) (fun _ => by kernel_rfl) trivial ?_
  refine CfgL.done rfl ?_
  refine Cfg.reg rfl [0, 2, 4, 5, 6, 13] [] (Γ' := [(13, [], .bool (kd == (0 : Int))), (6, [], .int .i64 (wl : Int)), (5, [], .int .i64 kd), (4, [], .pointer (some ⟨sb, 0, none⟩)), (2, [], .pointer (some ⟨rs, 0, none⟩)), (0, [], .string t)]) (nd := (fun _ => [])) (fun _ => by kernel_rfl) trivial ?_
  refine Cfg.cond rfl (b := (kd == (0 : Int))) (by kernel_rfl) (fun c1r => ?_) (fun c1r => ?_)
  · have c1 : (kd = (0 : Int)) := (beq_iff_eq.1 c1r)
    refine Cfg.begL rfl ?_
    refine CfgL.pure 1 [(0, false, some (.agg #[.int .i64 0, .int .u32 0, .int .u32 0, .int .u32 0, .int .u32 0, .int .u32 0]))] (some [2, 14]) (Γ' := [(14, [], .agg #[.int .i64 0, .int .u32 0, .int .u32 0, .int .u32 0, .int .u32 0, .int .u32 0]), (2, [], .pointer (some ⟨rs, 0, none⟩))]) (nd := (fun S => [(∀ w1, S w1 → (loadVar 26 ⟨sb, 0, none⟩).run Tryd.prog w1 = .ok (.agg #[.int .i64 0, .int .u32 0, .int .u32 0, .int .u32 0, .int .u32 0, .int .u32 0]) w1)])) (by kernel_rfl) (fun _ => by kernel_rfl) ⟨(fun w1 h => h.oload 0 rfl Tryd.underlying26 rfl (n := 6) (by kernel_rfl) rfl), trivial⟩ ?_
    refine CfgL.eff (o := _) rfl (by kernel_rfl) (by kernel_rfl) (Eff.storeN (b := rs) (off := 0) (vs := #[.int .i64 0, .int .u32 0, .int .u32 0, .int .u32 0, .int .u32 0, .int .u32 0]) (n := 6) rfl (by kernel_rfl) (by kernel_rfl) (by kernel_rfl) rfl (by intro v hv; simp only [List.mem_cons, List.not_mem_nil, or_false] at hv; rcases hv with rfl | rfl | rfl | rfl | rfl | rfl <;> rfl) 1 (cs := #[.int .i64 0, .int .u32 0, .int .u32 0, .int .u32 0, .int .u32 0, .int .u32 0]) (e := 26) (by kernel_rfl) (by decide)) ?_
    rintro ⟨⟩ -
    refine CfgL.setO (O' := [(sb, .cells #[.int .i64 0, .int .u32 0, .int .u32 0, .int .u32 0, .int .u32 0, .int .u32 0] 26 (0, 0)), (rs, .cells #[.int .i64 0, .int .u32 0, .int .u32 0, .int .u32 0, .int .u32 0, .int .u32 0] 26 (0, 0))]) (congrArg (fun (xq : Array Value) => ([(sb, .cells #[.int .i64 0, .int .u32 0, .int .u32 0, .int .u32 0, .int .u32 0, .int .u32 0] 26 (0, 0)), (rs, .cells xq 26 (0, 0))] : List (Nat × Obj))) (rfl)) ?_
    refine CfgL.pure 1 [] (some [2, 3]) (Γ' := [(3, [], .bool false), (2, [], .pointer (some ⟨rs, 0, none⟩))]) (nd := (fun _ => [])) (by kernel_rfl) (fun _ => by kernel_rfl) trivial ?_
    refine CfgL.done rfl ?_
    refine Cfg.ret rfl (rs := [.cell 2 26, .tmp 3]) rfl [.agg #[.int .i64 0, .int .u32 0, .int .u32 0, .int .u32 0, .int .u32 0, .int .u32 0], .bool false] ⟨⟨_, by kernel_rfl, (fun w1 h => h.oload 1 rfl Tryd.underlying26 rfl (n := 6) (by kernel_rfl) rfl)⟩, by kernel_rfl, trivial⟩ (fun w1 hp => ?_)
    have hv : oneV t.data.toList = (sz0, false) := if_pos (hkd.symm.trans c1)
    exact ⟨by rw [hv]; rfl, hp.ext⟩
  · have c1 : (kd ≠ (0 : Int)) := (beq_eq_false_iff_ne.1 c1r)
    refine Cfg.begL rfl ?_
    refine CfgL.pure 2 [] (some [0, 2, 4, 5, 6, 15, 16]) (Γ' := [(16, [], .pointer (some ⟨sb, 0, none⟩)), (15, [], .int .i64 kd), (6, [], .int .i64 (wl : Int)), (5, [], .int .i64 kd), (4, [], .pointer (some ⟨sb, 0, none⟩)), (2, [], .pointer (some ⟨rs, 0, none⟩)), (0, [], .string t)]) (nd := (fun _ => [])) (by kernel_rfl) (fun _ => by kernel_rfl) trivial ?_
    refine CfgL.eff (o := _) rfl (by kernel_rfl) (by kernel_rfl) (Eff.store1 (b := sb) (off := 0) (v := .int .i64 kd) rfl (by kernel_rfl) (by kernel_rfl) rfl (by kernel_rfl) 0 (cs := #[.int .i64 0, .int .u32 0, .int .u32 0, .int .u32 0, .int .u32 0, .int .u32 0]) (e := 26) (by kernel_rfl) (by simp)) ?_
    rintro ⟨⟩ -
    refine CfgL.done rfl ?_
    refine Conv.cfg (Γ' := [(6, [], .int .i64 (wl : Int)), (5, [], .int .i64 kd), (4, [], .pointer (some ⟨sb, 0, none⟩)), (2, [], .pointer (some ⟨rs, 0, none⟩)), (0, [], .string t)]) (Conv.mk (by kernel_rfl)) ?_
    refine Cfg.setO (O' := [(sb, .cells #[.int .i64 kd, .int .u32 0, .int .u32 0, .int .u32 0, .int .u32 0, .int .u32 0] 26 (0, 0)), (rs, .cells #[.int .i64 0, .int .u32 0, .int .u32 0, .int .u32 0, .int .u32 0, .int .u32 0] 26 (0, 0))]) (congrArg (fun (xq : Array Value) => ([(sb, .cells xq 26 (0, 0)), (rs, .cells #[.int .i64 0, .int .u32 0, .int .u32 0, .int .u32 0, .int .u32 0, .int .u32 0] 26 (0, 0))] : List (Nat × Obj))) (rfl)) ?_
    refine Cfg.begL rfl ?_
    refine CfgL.pure 2 [] none (Γ' := [(19, [], .int .i64 (wl : Int)), (18, [], .string t), (6, [], .int .i64 (wl : Int)), (5, [], .int .i64 kd), (4, [], .pointer (some ⟨sb, 0, none⟩)), (2, [], .pointer (some ⟨rs, 0, none⟩)), (0, [], .string t)]) (nd := (fun _ => [])) (by kernel_rfl) (fun _ => by kernel_rfl) trivial ?_
    refine CfgL.eff (o := _) rfl (by kernel_rfl) (by kernel_rfl) (Eff.callA (vs := [.string t, .int .i64 (wl : Int)]) (.tuple #[.int .u32 (y0.1 : Int), .int .i64 y0.2]) rfl Tryd.func30 rfl rfl (by kernel_rfl) (fun w1 _ => by have h9 := rNumber t (wl : Int) w1 hn0 ⟨by omega, by omega⟩; rw [← hy0] at h9; exact h9)) ?_
    rintro ⟨⟩ -
    refine CfgL.pure 4 [] (some [0, 2, 4, 5, 6, 21, 22, 23]) (Γ' := [(23, [], .pointer (some ⟨sb, 1, none⟩)), (22, [], .int .i64 y0.2), (21, [], .int .u32 (y0.1 : Int)), (6, [], .int .i64 (wl : Int)), (5, [], .int .i64 kd), (4, [], .pointer (some ⟨sb, 0, none⟩)), (2, [], .pointer (some ⟨rs, 0, none⟩)), (0, [], .string t)]) (nd := (fun _ => [])) (by kernel_rfl) (fun _ => by kernel_rfl) trivial ?_
    refine CfgL.eff (o := _) rfl (by kernel_rfl) (by kernel_rfl) (Eff.store1 (b := sb) (off := 1) (v := .int .u32 (y0.1 : Int)) rfl (by kernel_rfl) (by kernel_rfl) rfl (by kernel_rfl) 0 (cs := #[.int .i64 kd, .int .u32 0, .int .u32 0, .int .u32 0, .int .u32 0, .int .u32 0]) (e := 26) (by kernel_rfl) (by simp)) ?_
    rintro ⟨⟩ -
    refine CfgL.pure 1 [] (some [0, 2, 4, 5, 6]) (Γ' := [(6, [], .int .i64 y0.2), (5, [], .int .i64 kd), (4, [], .pointer (some ⟨sb, 0, none⟩)), (2, [], .pointer (some ⟨rs, 0, none⟩)), (0, [], .string t)]) (nd := (fun _ => [])) (by kernel_rfl) (fun _ => by kernel_rfl) trivial ?_
    refine CfgL.done rfl ?_
    refine Cfg.setO (O' := [(sb, .cells #[.int .i64 kd, .int .u32 (y0.1 : Int), .int .u32 0, .int .u32 0, .int .u32 0, .int .u32 0] 26 (0, 0)), (rs, .cells #[.int .i64 0, .int .u32 0, .int .u32 0, .int .u32 0, .int .u32 0, .int .u32 0] 26 (0, 0))]) (congrArg (fun (xq : Array Value) => ([(sb, .cells xq 26 (0, 0)), (rs, .cells #[.int .i64 0, .int .u32 0, .int .u32 0, .int .u32 0, .int .u32 0, .int .u32 0] 26 (0, 0))] : List (Nat × Obj))) (rfl)) ?_
    refine Cfg.reg rfl [0, 2, 4, 6, 25] [] (Γ' := [(25, [], .bool (kd == (3 : Int))), (6, [], .int .i64 y0.2), (4, [], .pointer (some ⟨sb, 0, none⟩)), (2, [], .pointer (some ⟨rs, 0, none⟩)), (0, [], .string t)]) (nd := (fun _ => [])) (fun _ => by kernel_rfl) trivial ?_
    refine Cfg.cond rfl (b := (kd == (3 : Int))) (by kernel_rfl) (fun c2r => ?_) (fun c2r => ?_)
    · have c2 : (kd = (3 : Int)) := (beq_iff_eq.1 c2r)
      refine Cfg.begL rfl ?_
      refine CfgL.pure 2 [] (some [0, 2, 4, 6, 27, 28]) (Γ' := [(28, [], .int .i64 y0.2), (27, [], .string t), (6, [], .int .i64 y0.2), (4, [], .pointer (some ⟨sb, 0, none⟩)), (2, [], .pointer (some ⟨rs, 0, none⟩)), (0, [], .string t)]) (nd := (fun _ => [])) (by kernel_rfl) (fun _ => by kernel_rfl) trivial ?_
      refine CfgL.eff (o := _) rfl (by kernel_rfl) (by kernel_rfl) (Eff.callA (vs := [.string t, .int .i64 y0.2]) (.tuple #[.int .u32 (y1.1 : Int), .int .i64 y1.2]) rfl Tryd.func30 rfl rfl (by kernel_rfl) (fun w1 _ => by have h9 := rNumber t y0.2 w1 hn0 r0; rw [← hy1] at h9; exact h9)) ?_
      rintro ⟨⟩ -
      refine CfgL.pure 4 [] (some [0, 2, 4, 6, 30, 31, 32]) (Γ' := [(32, [], .pointer (some ⟨sb, 2, none⟩)), (31, [], .int .i64 y1.2), (30, [], .int .u32 (y1.1 : Int)), (6, [], .int .i64 y0.2), (4, [], .pointer (some ⟨sb, 0, none⟩)), (2, [], .pointer (some ⟨rs, 0, none⟩)), (0, [], .string t)]) (nd := (fun _ => [])) (by kernel_rfl) (fun _ => by kernel_rfl) trivial ?_
      refine CfgL.eff (o := _) rfl (by kernel_rfl) (by kernel_rfl) (Eff.store1 (b := sb) (off := 2) (v := .int .u32 (y1.1 : Int)) rfl (by kernel_rfl) (by kernel_rfl) rfl (by kernel_rfl) 0 (cs := #[.int .i64 kd, .int .u32 (y0.1 : Int), .int .u32 0, .int .u32 0, .int .u32 0, .int .u32 0]) (e := 26) (by kernel_rfl) (by simp)) ?_
      rintro ⟨⟩ -
      refine CfgL.pure 1 [] (some [0, 2, 4, 6]) (Γ' := [(6, [], .int .i64 y1.2), (4, [], .pointer (some ⟨sb, 0, none⟩)), (2, [], .pointer (some ⟨rs, 0, none⟩)), (0, [], .string t)]) (nd := (fun _ => [])) (by kernel_rfl) (fun _ => by kernel_rfl) trivial ?_
      refine CfgL.done rfl ?_
      refine Cfg.setO (O' := [(sb, .cells #[.int .i64 kd, .int .u32 (y0.1 : Int), .int .u32 (y1.1 : Int), .int .u32 0, .int .u32 0, .int .u32 0] 26 (0, 0)), (rs, .cells #[.int .i64 0, .int .u32 0, .int .u32 0, .int .u32 0, .int .u32 0, .int .u32 0] 26 (0, 0))]) (congrArg (fun (xq : Array Value) => ([(sb, .cells xq 26 (0, 0)), (rs, .cells #[.int .i64 0, .int .u32 0, .int .u32 0, .int .u32 0, .int .u32 0, .int .u32 0] 26 (0, 0))] : List (Nat × Obj))) (rfl)) ?_
      refine Cfg.begL rfl ?_
      refine CfgL.pure 2 [] none (Γ' := [(35, [], .int .i64 y1.2), (34, [], .string t), (6, [], .int .i64 y1.2), (4, [], .pointer (some ⟨sb, 0, none⟩)), (2, [], .pointer (some ⟨rs, 0, none⟩)), (0, [], .string t)]) (nd := (fun _ => [])) (by kernel_rfl) (fun _ => by kernel_rfl) trivial ?_
      refine CfgL.eff (o := _) rfl (by kernel_rfl) (by kernel_rfl) (Eff.callA (vs := [.string t, .int .i64 y1.2]) (.tuple #[.int .u32 (y2.1 : Int), .int .i64 y2.2]) rfl Tryd.func30 rfl rfl (by kernel_rfl) (fun w1 _ => by have h9 := rNumber t y1.2 w1 hn0 r1; rw [← hy2] at h9; exact h9)) ?_
      rintro ⟨⟩ -
      refine CfgL.pure 4 [] (some [0, 2, 4, 6, 37, 38, 39]) (Γ' := [(39, [], .pointer (some ⟨sb, 3, none⟩)), (38, [], .int .i64 y2.2), (37, [], .int .u32 (y2.1 : Int)), (6, [], .int .i64 y1.2), (4, [], .pointer (some ⟨sb, 0, none⟩)), (2, [], .pointer (some ⟨rs, 0, none⟩)), (0, [], .string t)]) (nd := (fun _ => [])) (by kernel_rfl) (fun _ => by kernel_rfl) trivial ?_
      refine CfgL.eff (o := _) rfl (by kernel_rfl) (by kernel_rfl) (Eff.store1 (b := sb) (off := 3) (v := .int .u32 (y2.1 : Int)) rfl (by kernel_rfl) (by kernel_rfl) rfl (by kernel_rfl) 0 (cs := #[.int .i64 kd, .int .u32 (y0.1 : Int), .int .u32 (y1.1 : Int), .int .u32 0, .int .u32 0, .int .u32 0]) (e := 26) (by kernel_rfl) (by simp)) ?_
      rintro ⟨⟩ -
      refine CfgL.pure 1 [] (some [0, 2, 4, 6]) (Γ' := [(6, [], .int .i64 y2.2), (4, [], .pointer (some ⟨sb, 0, none⟩)), (2, [], .pointer (some ⟨rs, 0, none⟩)), (0, [], .string t)]) (nd := (fun _ => [])) (by kernel_rfl) (fun _ => by kernel_rfl) trivial ?_
      refine CfgL.done rfl ?_
      refine Cfg.setO (O' := [(sb, .cells #[.int .i64 kd, .int .u32 (y0.1 : Int), .int .u32 (y1.1 : Int), .int .u32 (y2.1 : Int), .int .u32 0, .int .u32 0] 26 (0, 0)), (rs, .cells #[.int .i64 0, .int .u32 0, .int .u32 0, .int .u32 0, .int .u32 0, .int .u32 0] 26 (0, 0))]) (congrArg (fun (xq : Array Value) => ([(sb, .cells xq 26 (0, 0)), (rs, .cells #[.int .i64 0, .int .u32 0, .int .u32 0, .int .u32 0, .int .u32 0, .int .u32 0] 26 (0, 0))] : List (Nat × Obj))) (rfl)) ?_
      refine Cfg.begL rfl ?_
      refine CfgL.pure 2 [] none (Γ' := [(42, [], .int .i64 y2.2), (41, [], .string t), (6, [], .int .i64 y2.2), (4, [], .pointer (some ⟨sb, 0, none⟩)), (2, [], .pointer (some ⟨rs, 0, none⟩)), (0, [], .string t)]) (nd := (fun _ => [])) (by kernel_rfl) (fun _ => by kernel_rfl) trivial ?_
      refine CfgL.eff (o := _) rfl (by kernel_rfl) (by kernel_rfl) (Eff.callA (vs := [.string t, .int .i64 y2.2]) (.tuple #[.int .u32 (y3.1 : Int), .int .i64 y3.2]) rfl Tryd.func30 rfl rfl (by kernel_rfl) (fun w1 _ => by have h9 := rNumber t y2.2 w1 hn0 r2; rw [← hy3] at h9; exact h9)) ?_
      rintro ⟨⟩ -
      refine CfgL.pure 4 [] (some [0, 2, 4, 6, 44, 45, 46]) (Γ' := [(46, [], .pointer (some ⟨sb, 4, none⟩)), (45, [], .int .i64 y3.2), (44, [], .int .u32 (y3.1 : Int)), (6, [], .int .i64 y2.2), (4, [], .pointer (some ⟨sb, 0, none⟩)), (2, [], .pointer (some ⟨rs, 0, none⟩)), (0, [], .string t)]) (nd := (fun _ => [])) (by kernel_rfl) (fun _ => by kernel_rfl) trivial ?_
      refine CfgL.eff (o := _) rfl (by kernel_rfl) (by kernel_rfl) (Eff.store1 (b := sb) (off := 4) (v := .int .u32 (y3.1 : Int)) rfl (by kernel_rfl) (by kernel_rfl) rfl (by kernel_rfl) 0 (cs := #[.int .i64 kd, .int .u32 (y0.1 : Int), .int .u32 (y1.1 : Int), .int .u32 (y2.1 : Int), .int .u32 0, .int .u32 0]) (e := 26) (by kernel_rfl) (by simp)) ?_
      rintro ⟨⟩ -
      refine CfgL.pure 1 [] (some [0, 2, 4, 6]) (Γ' := [(6, [], .int .i64 y3.2), (4, [], .pointer (some ⟨sb, 0, none⟩)), (2, [], .pointer (some ⟨rs, 0, none⟩)), (0, [], .string t)]) (nd := (fun _ => [])) (by kernel_rfl) (fun _ => by kernel_rfl) trivial ?_
      refine CfgL.done rfl ?_
      refine Cfg.setO (O' := [(sb, .cells #[.int .i64 kd, .int .u32 (y0.1 : Int), .int .u32 (y1.1 : Int), .int .u32 (y2.1 : Int), .int .u32 (y3.1 : Int), .int .u32 0] 26 (0, 0)), (rs, .cells #[.int .i64 0, .int .u32 0, .int .u32 0, .int .u32 0, .int .u32 0, .int .u32 0] 26 (0, 0))]) (congrArg (fun (xq : Array Value) => ([(sb, .cells xq 26 (0, 0)), (rs, .cells #[.int .i64 0, .int .u32 0, .int .u32 0, .int .u32 0, .int .u32 0, .int .u32 0] 26 (0, 0))] : List (Nat × Obj))) (rfl)) ?_
      refine Cfg.begL rfl ?_
      refine CfgL.pure 2 [] none (Γ' := [(49, [], .int .i64 y3.2), (48, [], .string t), (6, [], .int .i64 y3.2), (4, [], .pointer (some ⟨sb, 0, none⟩)), (2, [], .pointer (some ⟨rs, 0, none⟩)), (0, [], .string t)]) (nd := (fun _ => [])) (by kernel_rfl) (fun _ => by kernel_rfl) trivial ?_
      refine CfgL.eff (o := _) rfl (by kernel_rfl) (by kernel_rfl) (Eff.callA (vs := [.string t, .int .i64 y3.2]) (.tuple #[.int .u32 (y4.1 : Int), .int .i64 y4.2]) rfl Tryd.func30 rfl rfl (by kernel_rfl) (fun w1 _ => by have h9 := rNumber t y3.2 w1 hn0 r3; rw [← hy4] at h9; exact h9)) ?_
      rintro ⟨⟩ -
      refine CfgL.pure 4 [] (some [0, 2, 4, 6, 51, 52, 53]) (Γ' := [(53, [], .pointer (some ⟨sb, 5, none⟩)), (52, [], .int .i64 y4.2), (51, [], .int .u32 (y4.1 : Int)), (6, [], .int .i64 y3.2), (4, [], .pointer (some ⟨sb, 0, none⟩)), (2, [], .pointer (some ⟨rs, 0, none⟩)), (0, [], .string t)]) (nd := (fun _ => [])) (by kernel_rfl) (fun _ => by kernel_rfl) trivial ?_
      refine CfgL.eff (o := _) rfl (by kernel_rfl) (by kernel_rfl) (Eff.store1 (b := sb) (off := 5) (v := .int .u32 (y4.1 : Int)) rfl (by kernel_rfl) (by kernel_rfl) rfl (by kernel_rfl) 0 (cs := #[.int .i64 kd, .int .u32 (y0.1 : Int), .int .u32 (y1.1 : Int), .int .u32 (y2.1 : Int), .int .u32 (y3.1 : Int), .int .u32 0]) (e := 26) (by kernel_rfl) (by simp)) ?_
      rintro ⟨⟩ -
      refine CfgL.pure 1 [] (some [0, 2, 4, 6]) (Γ' := [(6, [], .int .i64 y4.2), (4, [], .pointer (some ⟨sb, 0, none⟩)), (2, [], .pointer (some ⟨rs, 0, none⟩)), (0, [], .string t)]) (nd := (fun _ => [])) (by kernel_rfl) (fun _ => by kernel_rfl) trivial ?_
      refine CfgL.done rfl ?_
      refine Cfg.setO (O' := [(sb, .cells #[.int .i64 kd, .int .u32 (y0.1 : Int), .int .u32 (y1.1 : Int), .int .u32 (y2.1 : Int), .int .u32 (y3.1 : Int), .int .u32 (y4.1 : Int)] 26 (0, 0)), (rs, .cells #[.int .i64 0, .int .u32 0, .int .u32 0, .int .u32 0, .int .u32 0, .int .u32 0] 26 (0, 0))]) (congrArg (fun (xq : Array Value) => ([(sb, .cells xq 26 (0, 0)), (rs, .cells #[.int .i64 0, .int .u32 0, .int .u32 0, .int .u32 0, .int .u32 0, .int .u32 0] 26 (0, 0))] : List (Nat × Obj))) (rfl)) ?_
      refine Cfg.begL rfl ?_
      refine CfgL.pure 5 [(0, false, some (.agg #[.int .i64 kd, .int .u32 (y0.1 : Int), .int .u32 (y1.1 : Int), .int .u32 (y2.1 : Int), .int .u32 (y3.1 : Int), .int .u32 (y4.1 : Int)]))] (some [2, 54, 58]) (Γ' := [(58, [], .bool (y4.2 == (t.size : Int))), (54, [], .agg #[.int .i64 kd, .int .u32 (y0.1 : Int), .int .u32 (y1.1 : Int), .int .u32 (y2.1 : Int), .int .u32 (y3.1 : Int), .int .u32 (y4.1 : Int)]), (2, [], .pointer (some ⟨rs, 0, none⟩))]) (nd := (fun S => [(∀ w1, S w1 → (loadVar 26 ⟨sb, 0, none⟩).run Tryd.prog w1 = .ok (.agg #[.int .i64 kd, .int .u32 (y0.1 : Int), .int .u32 (y1.1 : Int), .int .u32 (y2.1 : Int), .int .u32 (y3.1 : Int), .int .u32 (y4.1 : Int)]) w1)])) (by kernel_rfl) (fun _ => by kernel_rfl) ⟨(fun w1 h => h.oload 0 rfl Tryd.underlying26 rfl (n := 6) (by kernel_rfl) rfl), trivial⟩ ?_
      refine CfgL.eff (o := _) rfl (by kernel_rfl) (by kernel_rfl) (Eff.storeN (b := rs) (off := 0) (vs := #[.int .i64 kd, .int .u32 (y0.1 : Int), .int .u32 (y1.1 : Int), .int .u32 (y2.1 : Int), .int .u32 (y3.1 : Int), .int .u32 (y4.1 : Int)]) (n := 6) rfl (by kernel_rfl) (by kernel_rfl) (by kernel_rfl) rfl (by intro v hv; simp only [List.mem_cons, List.not_mem_nil, or_false] at hv; rcases hv with rfl | rfl | rfl | rfl | rfl | rfl <;> rfl) 1 (cs := #[.int .i64 0, .int .u32 0, .int .u32 0, .int .u32 0, .int .u32 0, .int .u32 0]) (e := 26) (by kernel_rfl) (by decide)) ?_
      rintro ⟨⟩ -
      refine CfgL.setO (O' := [(sb, .cells #[.int .i64 kd, .int .u32 (y0.1 : Int), .int .u32 (y1.1 : Int), .int .u32 (y2.1 : Int), .int .u32 (y3.1 : Int), .int .u32 (y4.1 : Int)] 26 (0, 0)), (rs, .cells #[.int .i64 kd, .int .u32 (y0.1 : Int), .int .u32 (y1.1 : Int), .int .u32 (y2.1 : Int), .int .u32 (y3.1 : Int), .int .u32 (y4.1 : Int)] 26 (0, 0))]) (congrArg (fun (xq : Array Value) => ([(sb, .cells #[.int .i64 kd, .int .u32 (y0.1 : Int), .int .u32 (y1.1 : Int), .int .u32 (y2.1 : Int), .int .u32 (y3.1 : Int), .int .u32 (y4.1 : Int)] 26 (0, 0)), (rs, .cells xq 26 (0, 0))] : List (Nat × Obj))) (rfl)) ?_
      refine CfgL.pure 1 [] (some [2, 3]) (Γ' := [(3, [], .bool (y4.2 == (t.size : Int))), (2, [], .pointer (some ⟨rs, 0, none⟩))]) (nd := (fun _ => [])) (by kernel_rfl) (fun _ => by kernel_rfl) trivial ?_
      refine CfgL.done rfl ?_
      refine Cfg.ret rfl (rs := [.cell 2 26, .tmp 3]) rfl [.agg #[.int .i64 kd, .int .u32 (y0.1 : Int), .int .u32 (y1.1 : Int), .int .u32 (y2.1 : Int), .int .u32 (y3.1 : Int), .int .u32 (y4.1 : Int)], .bool (y4.2 == (t.size : Int))] ⟨⟨_, by kernel_rfl, (fun w1 h => h.oload 1 rfl Tryd.underlying26 rfl (n := 6) (by kernel_rfl) rfl)⟩, by kernel_rfl, trivial⟩ (fun w1 hp => ?_)
      have hk2 : wantN kd = 5 := by unfold wantN; rw [if_pos c2]
      have hN : nthA t.data.toList 5 (wl : Int) = ([y0.1, y1.1, y2.1, y3.1, y4.1], y4.2) := by rw [hy4, hy3, hy2, hy1, hy0]; rfl
      have hv : oneV t.data.toList = (mkS kd [y0.1, y1.1, y2.1, y3.1, y4.1], decide (y4.2 = (t.data.toList.length : Int))) := by
        unfold oneV; rw [← hkd, if_neg c1, hk2, ← hw0, hN]
      exact ⟨by rw [hv, hlen]; rfl, hp.ext⟩
    · have c2 : (kd ≠ (3 : Int)) := (beq_eq_false_iff_ne.1 c2r)
      refine Cfg.begL rfl ?_
      refine CfgL.pure 5 [(0, false, some (.agg #[.int .i64 kd, .int .u32 (y0.1 : Int), .int .u32 0, .int .u32 0, .int .u32 0, .int .u32 0]))] (some [2, 54, 58]) (Γ' := [(58, [], .bool (y0.2 == (t.size : Int))), (54, [], .agg #[.int .i64 kd, .int .u32 (y0.1 : Int), .int .u32 0, .int .u32 0, .int .u32 0, .int .u32 0]), (2, [], .pointer (some ⟨rs, 0, none⟩))]) (nd := (fun S => [(∀ w1, S w1 → (loadVar 26 ⟨sb, 0, none⟩).run Tryd.prog w1 = .ok (.agg #[.int .i64 kd, .int .u32 (y0.1 : Int), .int .u32 0, .int .u32 0, .int .u32 0, .int .u32 0]) w1)])) (by kernel_rfl) (fun _ => by kernel_rfl) ⟨(fun w1 h => h.oload 0 rfl Tryd.underlying26 rfl (n := 6) (by kernel_rfl) rfl), trivial⟩ ?_
      refine CfgL.eff (o := _) rfl (by kernel_rfl) (by kernel_rfl) (Eff.storeN (b := rs) (off := 0) (vs := #[.int .i64 kd, .int .u32 (y0.1 : Int), .int .u32 0, .int .u32 0, .int .u32 0, .int .u32 0]) (n := 6) rfl (by kernel_rfl) (by kernel_rfl) (by kernel_rfl) rfl (by intro v hv; simp only [List.mem_cons, List.not_mem_nil, or_false] at hv; rcases hv with rfl | rfl | rfl | rfl | rfl | rfl <;> rfl) 1 (cs := #[.int .i64 0, .int .u32 0, .int .u32 0, .int .u32 0, .int .u32 0, .int .u32 0]) (e := 26) (by kernel_rfl) (by decide)) ?_
      rintro ⟨⟩ -
      refine CfgL.setO (O' := [(sb, .cells #[.int .i64 kd, .int .u32 (y0.1 : Int), .int .u32 0, .int .u32 0, .int .u32 0, .int .u32 0] 26 (0, 0)), (rs, .cells #[.int .i64 kd, .int .u32 (y0.1 : Int), .int .u32 0, .int .u32 0, .int .u32 0, .int .u32 0] 26 (0, 0))]) (congrArg (fun (xq : Array Value) => ([(sb, .cells #[.int .i64 kd, .int .u32 (y0.1 : Int), .int .u32 0, .int .u32 0, .int .u32 0, .int .u32 0] 26 (0, 0)), (rs, .cells xq 26 (0, 0))] : List (Nat × Obj))) (rfl)) ?_
      refine CfgL.pure 1 [] (some [2, 3]) (Γ' := [(3, [], .bool (y0.2 == (t.size : Int))), (2, [], .pointer (some ⟨rs, 0, none⟩))]) (nd := (fun _ => [])) (by kernel_rfl) (fun _ => by kernel_rfl) trivial ?_
      refine CfgL.done rfl ?_
      refine Cfg.ret rfl (rs := [.cell 2 26, .tmp 3]) rfl [.agg #[.int .i64 kd, .int .u32 (y0.1 : Int), .int .u32 0, .int .u32 0, .int .u32 0, .int .u32 0], .bool (y0.2 == (t.size : Int))] ⟨⟨_, by kernel_rfl, (fun w1 h => h.oload 1 rfl Tryd.underlying26 rfl (n := 6) (by kernel_rfl) rfl)⟩, by kernel_rfl, trivial⟩ (fun w1 hp => ?_)
      have hk2 : wantN kd = 1 := by unfold wantN; rw [if_neg c2]
      have hN : nthA t.data.toList 1 (wl : Int) = ([y0.1], y0.2) := by rw [hy0]; rfl
      have hv : oneV t.data.toList = (mkS kd [y0.1], decide (y0.2 = (t.data.toList.length : Int))) := by
        unfold oneV; rw [← hkd, if_neg c1, hk2, ← hw0, hN]
      exact ⟨by rw [hv, hlen]; rfl, hp.ext⟩

set_option maxRecDepth 100000 in
set_option maxHeartbeats 1000000 in
theorem rSame (la lb : Option Addr) (cap cb : Nat) (l : List Stp) (Rl : List (Nat × Obj)) (w : World) (hI : InT Rl la l) (hJ : InT Rl lb l) (hn : l.length ≤ 1000000) (hR : Has w Rl) :
    Calls Tryd.prog 12 #[.slice la l.length cap, .slice lb l.length cb] w fun e w' => e = .returned (.bool true) ∧ Ext [] w w' := by
  refine enter (vs := [.slice la l.length cap, .slice lb l.length cb]) [] Rl [] Tryd.func12 rfl (by kernel_rfl) (HP.ofHas hR) ?_
  refine Cfg.reg rfl [0, 1] [] (Γ' := [(0, [], .slice la l.length cap), (1, [], .slice lb l.length cb)]) (nd := (fun _ => [])) (fun _ => by kernel_rfl) trivial ?_
  refine Cfg.reg rfl [0, 1, 10] [] (Γ' := [(10, [], .bool ((l.length : Int) != (l.length : Int))), (0, [], .slice la l.length cap), (1, [], .slice lb l.length cb)]) (nd := (fun _ => [])) (fun _ => by kernel_rfl) trivial ?_
  refine Cfg.condF rfl (b := ((l.length : Int) != (l.length : Int))) (by kernel_rfl) (bne_self_eq_false _) ?_
  refine Cfg.reg rfl [0, 1, 12, 13] [] (Γ' := [(13, [], .int .i64 0), (12, [], .int .i64 (l.length : Int)), (0, [], .slice la l.length cap), (1, [], .slice lb l.length cb)]) (nd := (fun _ => [])) (fun _ => by kernel_rfl) trivial ?_
  refine Cfg.loop rfl (ι := Nat) (fun (i : Nat) => [(13, [], .int .i64 (i : Int)), (12, [], .int .i64 (l.length : Int)), (0, [], .slice la l.length cap), (1, [], .slice lb l.length cb)]) (fun (i : Nat) => []) (fun (i : Nat) => (i ≤ l.length)) (fun (i : Nat) => l.length - i) 0 ?_ (Conv.mk (by kernel_rfl)) .slnil ?_
  · exact Nat.zero_le _
  · rintro i hi
    refine Cfg.reg rfl [0, 1, 12, 13, 14] [] (Γ' := [(14, [], .bool (decide ((i : Int) < (l.length : Int)))), (13, [], .int .i64 (i : Int)), (12, [], .int .i64 (l.length : Int)), (0, [], .slice la l.length cap), (1, [], .slice lb l.length cb)]) (nd := (fun _ => [])) (fun _ => by kernel_rfl) trivial ?_
    refine Cfg.cond rfl (b := (decide ((i : Int) < (l.length : Int)))) (by kernel_rfl) (fun c2r => ?_) (fun c2r => ?_)
    · have c2 : ((i : Int) < (l.length : Int)) := (of_decide_eq_true c2r)
      refine Cfg.reg rfl [0, 1, 5, 12, 13] [] (Γ' := [(5, [], .int .i64 (i : Int)), (13, [], .int .i64 (i : Int)), (12, [], .int .i64 (l.length : Int)), (0, [], .slice la l.length cap), (1, [], .slice lb l.length cb)]) (nd := (fun _ => [])) (fun _ => by kernel_rfl) trivial ?_
      obtain ⟨sb, off, cs, te, fre, rfl, hmem, hcs⟩ := hI (by omega)
      obtain ⟨sc, of2, ds, tf, frf, rfl, hmem2, hcs2⟩ := hJ (by omega)
      refine Conv.cfg (Γ' := [(5, [], .int .i64 (i : Int)), (13, [], .int .i64 (i : Int)), (12, [], .int .i64 (l.length : Int)), (0, [], .slice (some ⟨sb, off, none⟩) l.length cap), (1, [], .slice (some ⟨sc, of2, none⟩) l.length cb)]) (Conv.mk (by kernel_rfl)) ?_
      refine Cfg.regD rfl (by kernel_rfl) [0, 1, 12, 13, 24] [(0, false, none), (0, false, none), (0, false, none), (0, false, some (.agg (stL (l.getD i sz0)).toArray)), (0, false, none), (0, false, none), (0, false, none), (0, false, some (.agg (stL (l.getD i sz0)).toArray)), (0, false, some (.bool true))] (Γ' := [(24, [], .bool false), (13, [], .int .i64 (i : Int)), (12, [], .int .i64 (l.length : Int)), (0, [], .slice (some ⟨sb, off, none⟩) l.length cap), (1, [], .slice (some ⟨sc, of2, none⟩) l.length cb)]) (nd := (fun S => [(0 ≤ (i : Int) ∧ (i : Int) < (l.length : Int)), (∀ w1, S w1 → (loadVar 26 ⟨sb, (addO off (i * 6)), none⟩).run Tryd.prog w1 = .ok (.agg (stL (l.getD i sz0)).toArray) w1), (0 ≤ (i : Int) ∧ (i : Int) < (l.length : Int)), (∀ w1, S w1 → (loadVar 26 ⟨sc, (addO of2 (i * 6)), none⟩).run Tryd.prog w1 = .ok (.agg (stL (l.getD i sz0)).toArray) w1), (∀ w1, S w1 → (Op.equal 26 (.agg (stL (l.getD i sz0)).toArray) (.agg (stL (l.getD i sz0)).toArray)).run Tryd.prog w1 = .ok true w1)])) (by kernel_rfl) (by kernel_rfl) (fun _ => by kernel_rfl) ⟨(by omega), (fun w1 h => load_list Tryd.underlying26 rfl (by kernel_rfl) rfl (fun j v hj => by rw [addO_eq]; exact (cell_cells (h.ro _ hmem)).trans (t_cell hcs (by omega) hj))), (by omega), (fun w1 h => load_list Tryd.underlying26 rfl (by kernel_rfl) rfl (fun j v hj => by rw [addO_eq]; exact (cell_cells (h.ro _ hmem2)).trans (t_cell hcs2 (by omega) hj))), (fun w1 _ => st_equal _ w1), trivial⟩ ?_
      refine Cfg.condF rfl (b := false) (by kernel_rfl) rfl ?_
      refine Cfg.reg rfl [0, 1, 12, 13] [] (Γ' := [(13, [], .int .i64 ((i : Int) + 1)), (12, [], .int .i64 (l.length : Int)), (0, [], .slice (some ⟨sb, off, none⟩) l.length cap), (1, [], .slice (some ⟨sc, of2, none⟩) l.length cb)]) (nd := (fun _ => [((-9223372036854775808 : Int) ≤ ((i : Int) + 1) ∧ ((i : Int) + 1) ≤ 9223372036854775807)])) (fun _ => by kernel_rfl) ⟨(by omega), trivial⟩ ?_
      refine Cfg.again rfl (i + 1) (show i + 1 ≤ l.length by omega) (by omega) (Conv.mk (by kernel_rfl)) .slnil
    · have c2 : (¬ ((i : Int) < (l.length : Int))) := (of_decide_eq_false c2r)
      refine Cfg.reg rfl [4] [] (Γ' := [(4, [], .bool true)]) (nd := (fun _ => [])) (fun _ => by kernel_rfl) trivial ?_
      refine Cfg.ret rfl (rs := [.tmp 4]) rfl [.bool true] ⟨by kernel_rfl, trivial⟩ (fun w1 hp => ?_)
      exact ⟨rfl, hp.ext⟩

set_option maxRecDepth 100000 in
set_option maxHeartbeats 1000000 in
theorem rParse (t : ByteArray) (w : World) (hn : t.size ≤ maxLen) :
    Calls Tryd.prog 10 #[.string t] w fun e w' => ∃ o : K.Own, OwnOk o 6 (parseT t.data.toList).1.length (sv (parseT t.data.toList).1) ∧ e = .returned (.tuple #[.slice (Own.a o) (parseT t.data.toList).1.length (Own.c o), .int .i64 ((parseT t.data.toList).2.1 : Int), .int .i64 (parseT t.data.toList).2.2]) ∧ ∃ R1, HP w [] R1 (Own.o 26 (sv (parseT t.data.toList).1) o) w' := by
  have hlen := ba_len t
  unfold maxLen at hn
  refine enter (vs := [.string t]) [] [] [] Tryd.func10 rfl (by kernel_rfl) (HP.start w) ?_
  refine Cfg.reg rfl [0] [] (Γ' := [(0, [], .string t)]) (nd := (fun _ => [])) (fun _ => by kernel_rfl) trivial ?_
  refine Cfg.reg rfl [0, 13] [] (Γ' := [(13, [], .bool (decide ((t.size : Int) > (20000 : Int)))), (0, [], .string t)]) (nd := (fun _ => [])) (fun _ => by kernel_rfl) trivial ?_
  refine Cfg.cond rfl (b := (decide ((t.size : Int) > (20000 : Int)))) (by kernel_rfl) (fun c1r => ?_) (fun c1r => ?_)
  · have c1 : ((t.size : Int) > (20000 : Int)) := (of_decide_eq_true c1r)
    refine Cfg.reg rfl [2, 3, 4] [] (Γ' := [(4, [], .int .i64 5), (3, [], .int .i64 0), (2, [], .slice none 0 0)]) (nd := (fun _ => [])) (fun _ => by kernel_rfl) trivial ?_
    refine Cfg.ret rfl (rs := [.tmp 2, .tmp 3, .tmp 4]) rfl [.slice none 0 0, .int .i64 0, .int .i64 5] ⟨by kernel_rfl, by kernel_rfl, by kernel_rfl, trivial⟩ (fun w1 hp => ?_)
    have hT : parseT t.data.toList = ([], 0, 5) := if_pos (by rw [hlen]; omega)
    rw [hT]
    exact ⟨none, OwnOk.none _, rfl, _, hp.sub (List.nil_sublist _)⟩
  · have c1 : (¬ ((t.size : Int) > (20000 : Int))) := (of_decide_eq_false c1r)
    refine Cfg.reg rfl [0, 5] [] (Γ' := [(5, [], .slice none 0 0), (0, [], .string t)]) (nd := (fun _ => [])) (fun _ => by kernel_rfl) trivial ?_
    refine Cfg.reg rfl [0, 5, 6, 7] [] (Γ' := [(7, [], .int .i64 0), (6, [], .int .i64 1), (5, [], .slice none 0 0), (0, [], .string t)]) (nd := (fun _ => [])) (fun _ => by kernel_rfl) trivial ?_
    refine Cfg.reg rfl [0, 5, 6, 7, 8] [] (Γ' := [(8, [], .int .i64 0), (7, [], .int .i64 0), (6, [], .int .i64 1), (5, [], .slice none 0 0), (0, [], .string t)]) (nd := (fun _ => [])) (fun _ => by kernel_rfl) trivial ?_
    refine Cfg.loop rfl (ι := Nat × Nat × Nat × List Stp × K.Own) (fun (xz : Nat × Nat × Nat × List Stp × K.Own) => match xz with | (i, f, ln, acc, o) => [(8, [], .int .i64 (i : Int)), (7, [], .int .i64 (f : Int)), (6, [], .int .i64 (ln : Int)), (5, [], .slice (Own.a o) acc.length (Own.c o)), (0, [], .string t)]) (fun (xz : Nat × Nat × Nat × List Stp × K.Own) => match xz with | (i, f, ln, acc, o) => ([] ++ (Own.o 26 (sv acc) o ++ []))) (fun (xz : Nat × Nat × Nat × List Stp × K.Own) => match xz with | (i, f, ln, acc, o) => (i ≤ t.size) ∧ (f ≤ i) ∧ (ln ≤ i + 1 ∧ acc.length ≤ i) ∧ (parseA [] 1 [] t.data.toList = parseA ((t.data.toList.drop f).take (i - f)) ln acc (t.data.toList.drop i)) ∧ (OwnOk o 6 acc.length (sv acc))) (fun (xz : Nat × Nat × Nat × List Stp × K.Own) => match xz with | (i, f, ln, acc, o) => t.size - i) (0, 0, 1, [], none) ?_ (Conv.mk (by kernel_rfl)) (List.Sublist.refl _) ?_
    · exact ⟨Nat.zero_le _, Nat.le_refl _, ⟨by omega, Nat.zero_le _⟩, rfl, OwnOk.none _⟩
    · rintro ⟨i, f, ln, acc, o⟩ ⟨hi, hfi, hln, hpa, hok⟩
      refine Cfg.reg rfl [0, 5, 6, 7, 8, 17] [] (Γ' := [(17, [], .bool (decide ((i : Int) < (t.size : Int)))), (8, [], .int .i64 (i : Int)), (7, [], .int .i64 (f : Int)), (6, [], .int .i64 (ln : Int)), (5, [], .slice (Own.a o) acc.length (Own.c o)), (0, [], .string t)]) (nd := (fun _ => [])) (fun _ => by kernel_rfl) trivial ?_
      refine Cfg.cond rfl (b := (decide ((i : Int) < (t.size : Int)))) (by kernel_rfl) (fun c2r => ?_) (fun c2r => ?_)
      · have c2 : ((i : Int) < (t.size : Int)) := (of_decide_eq_true c2r)
        refine Cfg.reg rfl [0, 5, 6, 7, 8, 23] [] (Γ' := [(23, [], .bool ((sbyte t (i : Int)) != (10 : Int))), (8, [], .int .i64 (i : Int)), (7, [], .int .i64 (f : Int)), (6, [], .int .i64 (ln : Int)), (5, [], .slice (Own.a o) acc.length (Own.c o)), (0, [], .string t)]) (nd := (fun _ => [(0 ≤ (i : Int) ∧ (i : Int) < (t.size : Int))])) (fun _ => by kernel_rfl) ⟨(by omega), trivial⟩ ?_
        refine Cfg.cond rfl (b := ((sbyte t (i : Int)) != (10 : Int))) (by kernel_rfl) (fun c3r => ?_) (fun c3r => ?_)
        · have c3 : ((sbyte t (i : Int)) ≠ (10 : Int)) := (bne_iff_ne.1 c3r)
          refine Cfg.reg rfl [0, 5, 6, 7, 8] [] (Γ' := [(8, [], .int .i64 ((i : Int) + 1)), (7, [], .int .i64 (f : Int)), (6, [], .int .i64 (ln : Int)), (5, [], .slice (Own.a o) acc.length (Own.c o)), (0, [], .string t)]) (nd := (fun _ => [((-9223372036854775808 : Int) ≤ ((i : Int) + 1) ∧ ((i : Int) + 1) ≤ 9223372036854775807)])) (fun _ => by kernel_rfl) ⟨(by omega), trivial⟩ ?_
          have hp2 := parse_step (l := t.data.toList) (line := ln) (acc := acc) hfi (by rw [hlen]; omega) (by rw [hlen]; omega) (fun h => c3 (by unfold sbyte; rw [Int.toNat_natCast, h]; rfl))
          refine Cfg.setG (Γ' := [(8, [], .int .i64 (((i + 1) : Nat) : Int)), (7, [], .int .i64 (f : Int)), (6, [], .int .i64 (ln : Int)), (5, [], .slice (Own.a o) acc.length (Own.c o)), (0, [], .string t)]) (congrArg (fun (xq : Int) => ([(8, [], .int .i64 xq), (7, [], .int .i64 (f : Int)), (6, [], .int .i64 (ln : Int)), (5, [], .slice (Own.a o) acc.length (Own.c o)), (0, [], .string t)] : Env)) (by omega)) ?_
          refine Cfg.again rfl (i + 1, f, ln, acc, o) ⟨by omega, by omega, by omega, hpa.trans hp2, hok⟩ (by show t.size - (i + 1) < t.size - i; omega) (Conv.mk (by kernel_rfl)) (List.Sublist.refl _)
        · have c3 : ((sbyte t (i : Int)) = (10 : Int)) := (bne_eq_false_iff_eq.1 c3r)
          have c3t : t.data.toList.getD i 0 = 10 := UInt8.toNat_inj.1 (by have h9 : ((t.data.toList.getD i 0).toNat : Int) = 10 := c3; rw [show (10 : UInt8).toNat = 10 from rfl]; omega)
          refine Cfg.begL rfl ?_
          refine CfgL.pure 4 [] (some [0, 5, 6, 8, 28]) (Γ' := [(28, [], .string (t.extract f i)), (8, [], .int .i64 (i : Int)), (6, [], .int .i64 (ln : Int)), (5, [], .slice (Own.a o) acc.length (Own.c o)), (0, [], .string t)]) (nd := (fun _ => [(0 ≤ (f : Int)), (0 ≤ (i : Int)), (f ≤ i ∧ i ≤ t.size)])) (by kernel_rfl) (fun _ => by kernel_rfl) ⟨(by omega), (by omega), (by omega), trivial⟩ ?_
          refine CfgL.eff (o := _) rfl (by kernel_rfl) (by kernel_rfl) (Eff.callA (vs := [.string (t.extract f i)]) (.tuple #[.agg (stL (oneV ((t.data.toList.drop f).take (i - f))).1).toArray, .bool (oneV ((t.data.toList.drop f).take (i - f))).2]) rfl Tryd.func21 rfl rfl (by kernel_rfl) (fun w1 _ => by have h9 := rOne (t.extract f i) w1 (by unfold maxLen; rw [ext_tx, tx_size, List.length_take, List.length_drop, hlen]; omega); rw [show (t.extract f i).data.toList = ((t.data.toList.drop f).take (i - f)) by rw [ext_tx, tx_list]] at h9; exact h9)) ?_
          rintro ⟨⟩ -
          refine CfgL.pure 3 [] (some [0, 5, 6, 8, 30, 31]) (Γ' := [(31, [], .bool (oneV ((t.data.toList.drop f).take (i - f))).2), (30, [], .agg (stL (oneV ((t.data.toList.drop f).take (i - f))).1).toArray), (8, [], .int .i64 (i : Int)), (6, [], .int .i64 (ln : Int)), (5, [], .slice (Own.a o) acc.length (Own.c o)), (0, [], .string t)]) (nd := (fun _ => [])) (by kernel_rfl) (fun _ => by kernel_rfl) trivial ?_
          refine CfgL.eff (o := _) rfl (by kernel_rfl) (by kernel_rfl) (Eff.alloc (z := (.agg (stL sz0).toArray)) rfl (by kernel_rfl)) ?_
          rintro sb ⟨hsb, nsb⟩
          refine CfgL.eff (o := _) rfl (by kernel_rfl) (by kernel_rfl) (Eff.storeN (b := sb) (off := 0) (vs := (stL (oneV ((t.data.toList.drop f).take (i - f))).1).toArray) (n := 6) rfl (by kernel_rfl) (by kernel_rfl) (by kernel_rfl) rfl (st_all _) 0 (cs := (stL sz0).toArray) (e := 26) (by kernel_rfl) (by decide)) ?_
          rintro ⟨⟩ -
          refine CfgL.setO (O' := ([(sb, .cells ((stL (oneV ((t.data.toList.drop f).take (i - f))).1).toArray) 26 (0, 0))] ++ (Own.o 26 (sv acc) o ++ []))) (congrArg (fun (xq : Array Value) => (([(sb, .cells xq 26 (0, 0))] ++ (Own.o 26 (sv acc) o ++ [])) : List (Nat × Obj))) ((spl_all (cs := (stL sz0).toArray) (vs := (stL (oneV ((t.data.toList.drop f).take (i - f))).1).toArray) rfl))) ?_
          refine CfgL.pure 1 [] (some [0, 5, 6, 8, 9, 10]) (Γ' := [(10, [], .bool (oneV ((t.data.toList.drop f).take (i - f))).2), (9, [], .pointer (some ⟨sb, 0, none⟩)), (8, [], .int .i64 (i : Int)), (6, [], .int .i64 (ln : Int)), (5, [], .slice (Own.a o) acc.length (Own.c o)), (0, [], .string t)]) (nd := (fun _ => [])) (by kernel_rfl) (fun _ => by kernel_rfl) trivial ?_
          refine CfgL.done rfl ?_
          refine Cfg.reg rfl [0, 5, 6, 8, 9, 33] [] (Γ' := [(33, [], .bool (!(oneV ((t.data.toList.drop f).take (i - f))).2)), (9, [], .pointer (some ⟨sb, 0, none⟩)), (8, [], .int .i64 (i : Int)), (6, [], .int .i64 (ln : Int)), (5, [], .slice (Own.a o) acc.length (Own.c o)), (0, [], .string t)]) (nd := (fun _ => [])) (fun _ => by kernel_rfl) trivial ?_
          refine Cfg.cond rfl (b := (!(oneV ((t.data.toList.drop f).take (i - f))).2)) (by kernel_rfl) (fun c4r => ?_) (fun c4r => ?_)
          · have c4 : ((oneV ((t.data.toList.drop f).take (i - f))).2 = false) := (notT c4r)
            have hone : (oneV ((t.data.toList.drop f).take (i - f))).2 = false := by simpa using c4r
            refine Cfg.reg rfl [2, 3, 4] [] (Γ' := [(4, [], .int .i64 60), (3, [], .int .i64 (ln : Int)), (2, [], .slice none 0 0)]) (nd := (fun _ => [])) (fun _ => by kernel_rfl) trivial ?_
            refine Cfg.ret rfl (rs := [.tmp 2, .tmp 3, .tmp 4]) rfl [.slice none 0 0, .int .i64 (ln : Int), .int .i64 60] ⟨by kernel_rfl, by kernel_rfl, by kernel_rfl, trivial⟩ (fun w1 hp => ?_)
            have hT : parseT t.data.toList = parseA [] 1 [] t.data.toList := if_neg (by rw [hlen]; omega)
            have hq : parseT t.data.toList = ([], ln, 60) := hT.trans (hpa.trans (parse_stop hfi (by rw [hlen]; omega) c3t (oneV_no hone)))
            rw [hq]
            exact ⟨none, OwnOk.none _, rfl, _, hp.sub (List.nil_sublist _)⟩
          · have c4 : ((oneV ((t.data.toList.drop f).take (i - f))).2 = true) := (notF c4r)
            have hone : (oneV ((t.data.toList.drop f).take (i - f))).2 = true := by simpa using c4r
            refine Cfg.begL rfl ?_
            refine CfgL.pure 2 [(0, false, none), (0, false, some (.agg (stL (oneV ((t.data.toList.drop f).take (i - f))).1).toArray))] (some [0, 5, 6, 8, 35, 36]) (Γ' := [(36, [], .agg (stL (oneV ((t.data.toList.drop f).take (i - f))).1).toArray), (35, [], .slice (Own.a o) acc.length (Own.c o)), (8, [], .int .i64 (i : Int)), (6, [], .int .i64 (ln : Int)), (5, [], .slice (Own.a o) acc.length (Own.c o)), (0, [], .string t)]) (nd := (fun S => [(∀ w1, S w1 → (loadVar 26 ⟨sb, 0, none⟩).run Tryd.prog w1 = .ok (.agg (stL (oneV ((t.data.toList.drop f).take (i - f))).1).toArray) w1)])) (by kernel_rfl) (fun _ => by kernel_rfl) ⟨(fun w1 h => h.oload 0 rfl Tryd.underlying26 rfl (n := 6) (by kernel_rfl) rfl), trivial⟩ ?_
            refine CfgL.eff (o := _) rfl (by kernel_rfl) (by kernel_rfl) (Eff.buildAgg (vs := (stL (oneV ((t.data.toList.drop f).take (i - f))).1).toArray) (n := 6) rfl (by kernel_rfl) Tryd.underlying22 (by kernel_rfl) (z := (.agg (stL sz0).toArray)) (by kernel_rfl) rfl (by decide) (by decide)) ?_
            rintro xb ⟨hxb, nxb⟩
            refine CfgL.eff (o := _) rfl (by kernel_rfl) (by kernel_rfl) (Eff.appendF rfl 6 32 Tryd.underlying22 (by kernel_rfl) (z := (.agg (stL sz0).toArray)) (by kernel_rfl) (by kernel_rfl) o (xs := (sv acc)) hok (by kernel_rfl) (b2 := xb) (off2 := 0) (m := 1) (c2 := 1) (by kernel_rfl) (stL (oneV ((t.data.toList.drop f).take (i - f))).1) rfl (st_all _) [(xb, .cells ((stL (oneV ((t.data.toList.drop f).take (i - f))).1).toArray) 26 (0, 0)), (sb, .cells ((stL (oneV ((t.data.toList.drop f).take (i - f))).1).toArray) 26 (0, 0))] [] (by rfl) (fun w1 h j v hj => st_src h 0 rfl hj) (by omega) (by omega)) ?_
            rintro o2 ko2
            refine CfgL.pure 1 [] (some [0, 5, 6, 8]) (Γ' := [(5, [], .slice (Own.a o2) ((acc.length + 1)) (Own.c o2)), (8, [], .int .i64 (i : Int)), (6, [], .int .i64 (ln : Int)), (0, [], .string t)]) (nd := (fun _ => [])) (by kernel_rfl) (fun _ => by kernel_rfl) trivial ?_
            refine CfgL.done rfl ?_
            refine Cfg.reg rfl [0, 5, 6, 7, 8] [] (Γ' := [(7, [], .int .i64 ((i : Int) + 1)), (5, [], .slice (Own.a o2) ((acc.length + 1)) (Own.c o2)), (8, [], .int .i64 (i : Int)), (6, [], .int .i64 (ln : Int)), (0, [], .string t)]) (nd := (fun _ => [((-9223372036854775808 : Int) ≤ ((i : Int) + 1) ∧ ((i : Int) + 1) ≤ 9223372036854775807)])) (fun _ => by kernel_rfl) ⟨(by omega), trivial⟩ ?_
            refine Cfg.reg rfl [0, 5, 6, 7, 8] [] (Γ' := [(6, [], .int .i64 ((ln : Int) + 1)), (7, [], .int .i64 ((i : Int) + 1)), (5, [], .slice (Own.a o2) ((acc.length + 1)) (Own.c o2)), (8, [], .int .i64 (i : Int)), (0, [], .string t)]) (nd := (fun _ => [((-9223372036854775808 : Int) ≤ ((ln : Int) + 1) ∧ ((ln : Int) + 1) ≤ 9223372036854775807)])) (fun _ => by kernel_rfl) ⟨(by omega), trivial⟩ ?_
            refine Cfg.reg rfl [0, 5, 6, 7, 8] [] (Γ' := [(8, [], .int .i64 ((i : Int) + 1)), (6, [], .int .i64 ((ln : Int) + 1)), (7, [], .int .i64 ((i : Int) + 1)), (5, [], .slice (Own.a o2) ((acc.length + 1)) (Own.c o2)), (0, [], .string t)]) (nd := (fun _ => [((-9223372036854775808 : Int) ≤ ((i : Int) + 1) ∧ ((i : Int) + 1) ≤ 9223372036854775807)])) (fun _ => by kernel_rfl) ⟨(by omega), trivial⟩ ?_
            have hrv : sv (acc ++ [(oneV ((t.data.toList.drop f).take (i - f))).1]) = sv acc ++ stL (oneV ((t.data.toList.drop f).take (i - f))).1 := by rw [sv_app, sv_one]
            have hp2 := parse_ten (l := t.data.toList) (line := ln) (acc := acc) hfi (by rw [hlen]; omega) c3t (oneV_yes hone)
            refine Cfg.setO (O' := ([(xb, .cells ((stL (oneV ((t.data.toList.drop f).take (i - f))).1).toArray) 26 (0, 0)), (sb, .cells ((stL (oneV ((t.data.toList.drop f).take (i - f))).1).toArray) 26 (0, 0))] ++ (Own.o 26 (sv (acc ++ [(oneV ((t.data.toList.drop f).take (i - f))).1])) o2 ++ []))) (congrArg (fun (xq : List Value) => (([(xb, .cells ((stL (oneV ((t.data.toList.drop f).take (i - f))).1).toArray) 26 (0, 0)), (sb, .cells ((stL (oneV ((t.data.toList.drop f).take (i - f))).1).toArray) 26 (0, 0))] ++ (Own.o 26 xq o2 ++ [])) : List (Nat × Obj))) (hrv.symm)) ?_
            refine Cfg.setG (Γ' := [(8, [], .int .i64 (((i + 1) : Nat) : Int)), (6, [], .int .i64 ((ln : Int) + 1)), (7, [], .int .i64 ((i : Int) + 1)), (5, [], .slice (Own.a o2) ((acc.length + 1)) (Own.c o2)), (0, [], .string t)]) (congrArg (fun (xq : Int) => ([(8, [], .int .i64 xq), (6, [], .int .i64 ((ln : Int) + 1)), (7, [], .int .i64 ((i : Int) + 1)), (5, [], .slice (Own.a o2) ((acc.length + 1)) (Own.c o2)), (0, [], .string t)] : Env)) (by omega)) ?_
            refine Cfg.setG (Γ' := [(8, [], .int .i64 (((i + 1) : Nat) : Int)), (6, [], .int .i64 ((ln : Int) + 1)), (7, [], .int .i64 (((i + 1) : Nat) : Int)), (5, [], .slice (Own.a o2) ((acc.length + 1)) (Own.c o2)), (0, [], .string t)]) (congrArg (fun (xq : Int) => ([(8, [], .int .i64 (((i + 1) : Nat) : Int)), (6, [], .int .i64 ((ln : Int) + 1)), (7, [], .int .i64 xq), (5, [], .slice (Own.a o2) ((acc.length + 1)) (Own.c o2)), (0, [], .string t)] : Env)) (by omega)) ?_
            refine Cfg.setG (Γ' := [(8, [], .int .i64 (((i + 1) : Nat) : Int)), (6, [], .int .i64 (((ln + 1) : Nat) : Int)), (7, [], .int .i64 (((i + 1) : Nat) : Int)), (5, [], .slice (Own.a o2) ((acc.length + 1)) (Own.c o2)), (0, [], .string t)]) (congrArg (fun (xq : Int) => ([(8, [], .int .i64 (((i + 1) : Nat) : Int)), (6, [], .int .i64 xq), (7, [], .int .i64 (((i + 1) : Nat) : Int)), (5, [], .slice (Own.a o2) ((acc.length + 1)) (Own.c o2)), (0, [], .string t)] : Env)) (by omega)) ?_
            refine Cfg.setG (Γ' := [(8, [], .int .i64 (((i + 1) : Nat) : Int)), (6, [], .int .i64 (((ln + 1) : Nat) : Int)), (7, [], .int .i64 (((i + 1) : Nat) : Int)), (5, [], .slice (Own.a o2) ((acc ++ [(oneV ((t.data.toList.drop f).take (i - f))).1]).length) (Own.c o2)), (0, [], .string t)]) (congrArg (fun (xq : Nat) => ([(8, [], .int .i64 (((i + 1) : Nat) : Int)), (6, [], .int .i64 (((ln + 1) : Nat) : Int)), (7, [], .int .i64 (((i + 1) : Nat) : Int)), (5, [], .slice (Own.a o2) xq (Own.c o2)), (0, [], .string t)] : Env)) (by rw [List.length_append]; rfl)) ?_
            refine Cfg.again rfl (i + 1, i + 1, ln + 1, (acc ++ [(oneV ((t.data.toList.drop f).take (i - f))).1]), o2) ⟨by omega, by omega, by rw [List.length_append]; simp only [List.length_cons, List.length_nil]; omega, hpa.trans hp2, by rw [hrv, List.length_append]; exact ko2⟩ (by show t.size - (i + 1) < t.size - i; omega) (Conv.mk (by kernel_rfl)) (.cons _ (.cons _ (List.Sublist.refl _)))
      · have c2 : (¬ ((i : Int) < (t.size : Int))) := (of_decide_eq_false c2r)
        refine Cfg.reg rfl [5, 6, 46] [] (Γ' := [(46, [], .bool (decide ((f : Int) < (t.size : Int)))), (6, [], .int .i64 (ln : Int)), (5, [], .slice (Own.a o) acc.length (Own.c o))]) (nd := (fun _ => [])) (fun _ => by kernel_rfl) trivial ?_
        refine Cfg.cond rfl (b := (decide ((f : Int) < (t.size : Int)))) (by kernel_rfl) (fun c5r => ?_) (fun c5r => ?_)
        · have c5 : ((f : Int) < (t.size : Int)) := (of_decide_eq_true c5r)
          refine Cfg.reg rfl [2, 3, 4] [] (Γ' := [(4, [], .int .i64 60), (3, [], .int .i64 (ln : Int)), (2, [], .slice none 0 0)]) (nd := (fun _ => [])) (fun _ => by kernel_rfl) trivial ?_
          refine Cfg.ret rfl (rs := [.tmp 2, .tmp 3, .tmp 4]) rfl [.slice none 0 0, .int .i64 (ln : Int), .int .i64 60] ⟨by kernel_rfl, by kernel_rfl, by kernel_rfl, trivial⟩ (fun w1 hp => ?_)
          have hT : parseT t.data.toList = parseA [] 1 [] t.data.toList := if_neg (by rw [hlen]; omega)
          have hq : parseT t.data.toList = ([], ln, 60) := hT.trans (hpa.trans (parse_open (by rw [hlen]; omega) (by rw [hlen]; omega)))
          rw [hq]
          exact ⟨none, OwnOk.none _, rfl, _, hp.sub (List.nil_sublist _)⟩
        · have c5 : (¬ ((f : Int) < (t.size : Int))) := (of_decide_eq_false c5r)
          refine Cfg.reg rfl [2, 3, 4] [] (Γ' := [(4, [], .int .i64 0), (3, [], .int .i64 0), (2, [], .slice (Own.a o) acc.length (Own.c o))]) (nd := (fun _ => [])) (fun _ => by kernel_rfl) trivial ?_
          refine Cfg.ret rfl (rs := [.tmp 2, .tmp 3, .tmp 4]) rfl [.slice (Own.a o) acc.length (Own.c o), .int .i64 0, .int .i64 0] ⟨by kernel_rfl, by kernel_rfl, by kernel_rfl, trivial⟩ (fun w1 hp => ?_)
          have hT : parseT t.data.toList = parseA [] 1 [] t.data.toList := if_neg (by rw [hlen]; omega)
          have hq : parseT t.data.toList = (acc, 0, 0) := hT.trans (hpa.trans (parse_end (by rw [hlen]; omega) (by rw [hlen]; omega)))
          rw [hq]
          have h9 := hp.sub (List.sublist_append_right _ _)
          rw [List.append_nil] at h9
          exact ⟨o, hok, rfl, _, h9⟩

end Go.Proofs.YtoopekjbikcebaaDoor
