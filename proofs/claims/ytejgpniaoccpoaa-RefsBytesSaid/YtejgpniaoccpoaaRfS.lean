/- refs: rows laid and taken. -/
import Derived.Test.YtejgpniaoccpoaaRfR
import Derived.Test.YtejgpniaoccpoaaWire5
namespace Go.Proofs.Ytejgpniaoccpoaa
open K
set_option linter.unusedVariables false

theorem inS_dig (bk : Nat) (t : TypeId) (fr : Nat × Nat) (d : List UInt8) (h : d.length = 32) : InS [(bk, .cells (bv d) t fr)] (some ⟨bk, 0, none⟩) ([d].length * 32) (fun j => .int .u8 ((([d].getD (j / 32) []).getD (j % 32) 0).toNat : Int)) := by
  intro _
  refine ⟨bk, 0, _, t, fr, rfl, List.mem_singleton.2 rfl, fun j hj => ?_⟩
  simp only [List.length_cons, List.length_nil] at hj
  rw [Nat.zero_add, bv_get h (by omega)]
  simp only [show j / 32 = 0 by omega, show j % 32 = j by omega]
  rfl
theorem wDigest1 (l d : List UInt8) (bk : Nat) (t : TypeId) (w : World) (h : d.length = 32) (hr : l.length + 32 ≤ 140737488355328) (hh : Has w [(bk, .cells (bv d) t (0, 0))]) :
    Calls Try.prog 49 #[.agg #[.string (tx l)], .slice (some ⟨bk, 0, none⟩) 1 1] w fun e w' => e = .returned (.agg #[.string (tx (l ++ d))]) ∧ Ext [] w w' := by
  have := wDigest (tx l) (some ⟨bk, 0, none⟩) 1 [d] [(bk, .cells (bv d) t (0, 0))] w (inS_dig bk t (0, 0) d h) hh (by simp [maxLen]) (by rw [flat_one, tx_size]; show _ + d.length ≤ _; omega) (fun i hi => by
    obtain rfl : i = 0 := by simpa using hi
    exact h)
  rw [flat_one] at this
  exact this
theorem refL_len {x : Rf} (h : x.2.length = 32) : (refL x).length = 36 + x.1.size := by unfold refL; rw [List.length_append, text4_len, h]; omega
theorem row_roomR {s : ByteArray} {xs : List Rf} {m : Nat} (hr : s.size + (rowR xs).length ≤ m) : s.size + (flat four [xs.length]).length ≤ m := by
  have h1 : (rowR xs).length = (four xs.length).length + (flat refL xs).length := by unfold rowR; rw [List.length_append]
  rw [flat_one]; omega
theorem rc_src {w0 w : World} {M : List Nat} {R O : List (Nat × Obj)} (h : HP w0 M R O w) (i : Nat) {b : Nat} {r : Rf} {t : TypeId} (ho : O[i]? = some (b, .cells (rc r).toArray t (0, 0))) {j : Nat} {v : Value} (hj : (rc r)[j]? = some v) : w.cell? ⟨b, 0 + j, none⟩ = some v := by
  rw [Nat.zero_add, cell_cells (h.own _ (List.mem_of_getElem? ho)), List.getElem?_toArray]; exact hj
/-- A row that the document takes. -/
def takeT (z : IN) : List Rf × IN := takeL takeR (boundF z 16 6).1 (boundF z 16 6).2 []
theorem takeT_st (z : IN) : (takeT z).2 = (rowsT takeR z 16).2 := (takeL_rows takeR_bad _ _ _).1
theorem takeT_ok {z : IN} (h : (rowsT takeR z 16).2.er = 0) : (takeT z).1 = (rowsT takeR z 16).1 := (takeL_rows takeR_bad _ _ _).2 h
theorem takeL_w : ∀ (k : Nat) (z : IN) (acc : List Rf), W32 acc → W32 (takeL takeR k z acc).1
  | 0, z, acc, h => h
  | k + 1, z, acc, h => by
    rw [takeL]; split
    · exact h
    · exact takeL_w k _ _ (h.app (W32.one (dig32_len _)))
theorem takeL_len : ∀ (k : Nat) (z : IN) (acc : List Rf), (takeL takeR k z acc).1.length ≤ acc.length + k
  | 0, z, acc => Nat.le_refl _
  | k + 1, z, acc => by
    rw [takeL]; split
    · exact Nat.le_add_right ..
    · have := takeL_len k (takeR z).2 (acc ++ [(takeR z).1])
      rw [List.length_append] at this
      simp only [List.length_cons, List.length_nil] at this
      omega
theorem takeL_go {k : Nat} {z : IN} {acc : List Rf} (h : z.er = 0) : takeL takeR (k + 1) z acc = takeL takeR k (takeR z).2 (acc ++ [(takeR z).1]) := if_neg (fun h2 => h2 h)

theorem nm24 {l : List Rf} (h : ∀ x ∈ l, x.1.size ≤ 24) (i : Nat) : (l.getD i rz).1.size ≤ 24 := by
  rw [List.getD_eq_getElem?_getD]
  by_cases hi : i < l.length
  · rw [List.getElem?_eq_getElem hi]; exact h _ (List.getElem_mem hi)
  · rw [List.getElem?_eq_none (by omega)]; exact Nat.zero_le _
theorem flat_le (l : List Rf) (hW : W32 l) (h : ∀ x ∈ l, x.1.size ≤ 24) : ∀ i, (flat refL (l.take i)).length ≤ 60 * i
  | 0 => by simp [flat]
  | i + 1 => by
    by_cases hi : i < l.length
    · have h1 := flat_le l hW h i
      have h2 := nm24 h i
      rw [flat_succ rz hi, List.length_append, refL_len (hW.at i)]; omega
    · rw [List.take_of_length_le (by omega), ← List.take_of_length_le (show l.length ≤ i by omega)]
      have h1 := flat_le l hW h i
      omega

set_option maxRecDepth 100000 in
theorem layR (s : ByteArray) (x : Rf) (w : World) (hx : x.2.length = 32) (hr : s.size + (36 + x.1.size) ≤ 140737488355328) :
    Calls Try.prog 18 #[.agg #[.string s], .agg (rc x).toArray] w fun e w' => e = .returned (.agg #[.string (tx (s.data.toList ++ refL x))]) ∧ Ext [] w w' := by
  have hts := tx_size
  refine enter (vs := [.agg #[.string s], .agg (rc x).toArray]) [] [] [] Try.func18 rfl (by kernel_rfl) (HP.start w) ?_
  refine Cfg.begL rfl ?_
  refine CfgL.eff (o := _) rfl (by kernel_rfl) (by kernel_rfl) (Eff.box (v := .agg #[.string s]) rfl (by kernel_rfl)) ?_
  rintro o ⟨ho, no⟩
  refine CfgL.eff (o := _) rfl (by kernel_rfl) (by kernel_rfl) (Eff.box (v := .agg (rc x).toArray) rfl (by kernel_rfl)) ?_
  rintro xb ⟨hxb, nxb⟩
  refine CfgL.eff (o := _) rfl (by kernel_rfl) (by kernel_rfl) (Eff.alloc (z := (.agg #[.string ByteArray.empty])) rfl (by kernel_rfl)) ?_
  rintro rs ⟨hrs, nrs⟩
  refine CfgL.done rfl ?_
  refine Conv.cfg (Γ' := [(4, [], .pointer (some ⟨rs, 0, none⟩)), (3, [], .pointer (some ⟨xb, 0, none⟩)), (2, [], .pointer (some ⟨o, 0, none⟩))]) (Conv.mk (by kernel_rfl)) ?_
  refine Cfg.begA rfl (by kernel_rfl) [(xb, .cells ((rc x).toArray) 50 (0, 0)), (o, .cells #[.string s] 52 (0, 0))] ?_
  refine CfgA.pure [0, 1, 2, 5, 6] [(0, false, some (.agg #[.string s])), (0, false, none), (0, false, some (.string x.1)), (0, false, none), (0, false, some (.agg (bv x.2)))] none (l' := #[true, true, true, false, false, true, true, false, false, false]) (by kernel_rfl) (by kernel_rfl) (.cons _ (.cons_cons _ (.cons_cons _ .slnil))) 5 rfl (Γ' := [(11, [], .agg (bv x.2)), (10, [], .pointer (some ⟨xb, 1, none⟩)), (7, [], .string x.1), (6, [], .pointer (some ⟨xb, 0, none⟩)), (5, [], .agg #[.string s]), (4, [], .pointer (some ⟨rs, 0, none⟩)), (3, [], .pointer (some ⟨xb, 0, none⟩)), (2, [], .pointer (some ⟨o, 0, none⟩))]) (nd := (fun S => [(∀ w1, S w1 → (loadVar 52 ⟨o, 0, none⟩).run Try.prog w1 = .ok (.agg #[.string s]) w1), (∀ w1, S w1 → w1.cell? ⟨xb, 0, none⟩ = some (.string x.1)), (∀ w1, S w1 → (loadVar 45 ⟨xb, 1, none⟩).run Try.prog w1 = .ok (.agg (bv x.2)) w1)])) (fun _ => by kernel_rfl) ⟨(fun w1 h => h.oload 1 rfl Try.underlying52 rfl (n := 1) (by kernel_rfl) rfl), (fun w1 h => h.ocell 0 rfl rfl), (fun w1 h => load_bytes Try.underlying45 rfl (by kernel_rfl) hx (fun j hj => by rw [cell_cells (h.own (xb, _) (List.mem_of_getElem? (i := 0) rfl)), List.getElem?_toArray]; exact rc_byte hx hj)), trivial⟩ ?_
  refine CfgA.two 3 7 (by kernel_rfl) (fuel' := 4) rfl ?_ ?_
  ·
    refine CfgI.eff (o := _) rfl (by kernel_rfl) (by kernel_rfl) (Eff.buildSlice (e := 9) (cells := #[.string x.1]) (parts := #[(0, .string x.1)]) rfl (by kernel_rfl) (fun _ => by kernel_rfl)) (fun _ _ => (.cons _ (.cons _ (.cons_cons _ (.cons_cons _ .slnil))))) ?_
    rintro x4 ⟨hx4, nx4⟩
    refine CfgA.two 4 7 (by kernel_rfl) (fuel' := 3) rfl ?_ ?_
    ·
      refine CfgI.eff (o := _) rfl (by kernel_rfl) (by kernel_rfl) (Eff.callA (vs := [.agg #[.string s], .slice (some ⟨x4, 0, none⟩) 1 1]) (.agg #[.string (tx (s.data.toList ++ flat text4 [x.1]))]) rfl Try.func16 rfl rfl (by kernel_rfl) (fun w1 h => wText s (some ⟨x4, 0, none⟩) 1 [x.1] [(x4, .cells #[.string x.1] 9 (0, 0))] w1 (inS_text x4 9 (0, 0) x.1) (h.has (fun e he => List.mem_of_getElem? (i := 0) (by rw [List.mem_singleton.1 he]; rfl))) (one_len _) (by rw [flat_one, text4_len]; omega))) (fun _ _ => (.cons _ (.cons _ (.cons_cons _ (.cons_cons _ .slnil))))) ?_
      rintro ⟨⟩ -
      refine CfgA.eff 7 (o := _) rfl (by kernel_rfl) (fuel' := 2) rfl (by kernel_rfl) (by kernel_rfl) (Eff.buildAgg (vs := (bv x.2)) (n := 32) rfl (by kernel_rfl) Try.underlying111 (by kernel_rfl) (z := (.agg (bv (List.replicate 32 0)))) (by kernel_rfl) ((bv_size _).trans hx) (by decide) (by decide)) (fun _ _ => (.cons _ (.cons _ (.cons _ (.cons_cons _ (.cons_cons _ .slnil)))))) ?_
      rintro x5 ⟨hx5, nx5⟩
      refine CfgA.eff 8 (o := _) rfl (by kernel_rfl) (fuel' := 1) rfl (by kernel_rfl) (by kernel_rfl) (Eff.callA (vs := [.agg #[.string (tx (s.data.toList ++ flat text4 [x.1]))], .slice (some ⟨x5, 0, none⟩) 1 1]) (.agg #[.string (tx (s.data.toList ++ flat text4 [x.1] ++ x.2))]) rfl Try.func49 rfl rfl (by kernel_rfl) (fun w1 h => wDigest1 (s.data.toList ++ flat text4 [x.1]) x.2 x5 45 w1 hx (by rw [List.length_append, flat_one, text4_len, ba_len]; omega) (h.has (fun e he => List.mem_of_getElem? (i := 0) (by rw [List.mem_singleton.1 he]; rfl))))) (fun _ _ => (.cons _ (.cons _ (.cons _ (.cons_cons _ (.cons_cons _ .slnil)))))) ?_
      rintro ⟨⟩ -
      refine CfgA.eff 9 (o := _) rfl (by kernel_rfl) (fuel' := 0) rfl (by kernel_rfl) (by kernel_rfl) (Eff.storeN (b := rs) (off := 0) (vs := #[.string (tx (s.data.toList ++ flat text4 [x.1] ++ x.2))]) (n := 1) rfl (by kernel_rfl) (by kernel_rfl) (by kernel_rfl) rfl (by simp [one]) 2 (cs := #[.string ByteArray.empty]) (e := 52) (by kernel_rfl) (by simp)) (fun _ _ => (.cons _ (.cons _ (.cons _ (.cons_cons _ (.cons_cons _ .slnil)))))) ?_
      rintro ⟨⟩ -
      refine CfgA.setO (O' := [(x5, .cells (bv x.2) 45 (0, 0)), (x4, .cells #[.string x.1] 9 (0, 0)), (rs, .cells #[.string (tx (s.data.toList ++ flat text4 [x.1] ++ x.2))] 52 (0, 0)), (xb, .cells ((rc x).toArray) 50 (0, 0)), (o, .cells #[.string s] 52 (0, 0))]) (congrArg (fun (xq : Array Value) => ([(x5, .cells (bv x.2) 45 (0, 0)), (x4, .cells #[.string x.1] 9 (0, 0)), (rs, .cells xq 52 (0, 0)), (xb, .cells ((rc x).toArray) 50 (0, 0)), (o, .cells #[.string s] 52 (0, 0))] : List (Nat × Obj))) (rfl)) ?_
      refine CfgA.done (by kernel_rfl) ?_
      refine Conv.cfg (Γ' := [(4, [], .pointer (some ⟨rs, 0, none⟩))]) (Conv.mk (by kernel_rfl)) ?_
      refine Cfg.ret rfl (rs := [.cell 4 52]) rfl [.agg #[.string (tx (s.data.toList ++ flat text4 [x.1] ++ x.2))]] ⟨⟨_, by kernel_rfl, (fun w1 h => h.oload 2 rfl Try.underlying52 rfl (n := 1) (by kernel_rfl) rfl)⟩, trivial⟩ (fun w1 hp => ?_)
      exact ⟨by rw [flat_one, List.append_assoc]; rfl, hp.ext⟩
    ·
      refine CfgI.eff (o := _) rfl (by kernel_rfl) (by kernel_rfl) (Eff.buildAgg (vs := (bv x.2)) (n := 32) rfl (by kernel_rfl) Try.underlying111 (by kernel_rfl) (z := (.agg (bv (List.replicate 32 0)))) (by kernel_rfl) ((bv_size _).trans hx) (by decide) (by decide)) (fun _ _ => (.cons _ (.cons _ (.cons _ (.cons_cons _ (.cons_cons _ .slnil)))))) ?_
      rintro x6 ⟨hx6, nx6⟩
      refine CfgA.eff 4 (o := _) rfl (by kernel_rfl) (fuel' := 2) rfl (by kernel_rfl) (by kernel_rfl) (Eff.callA (vs := [.agg #[.string s], .slice (some ⟨x4, 0, none⟩) 1 1]) (.agg #[.string (tx (s.data.toList ++ flat text4 [x.1]))]) rfl Try.func16 rfl rfl (by kernel_rfl) (fun w1 h => wText s (some ⟨x4, 0, none⟩) 1 [x.1] [(x4, .cells #[.string x.1] 9 (0, 0))] w1 (inS_text x4 9 (0, 0) x.1) (h.has (fun e he => List.mem_of_getElem? (i := 1) (by rw [List.mem_singleton.1 he]; rfl))) (one_len _) (by rw [flat_one, text4_len]; omega))) (fun _ _ => (.cons _ (.cons _ (.cons _ (.cons_cons _ (.cons_cons _ .slnil)))))) ?_
      rintro ⟨⟩ -
      refine CfgA.eff 8 (o := _) rfl (by kernel_rfl) (fuel' := 1) rfl (by kernel_rfl) (by kernel_rfl) (Eff.callA (vs := [.agg #[.string (tx (s.data.toList ++ flat text4 [x.1]))], .slice (some ⟨x6, 0, none⟩) 1 1]) (.agg #[.string (tx (s.data.toList ++ flat text4 [x.1] ++ x.2))]) rfl Try.func49 rfl rfl (by kernel_rfl) (fun w1 h => wDigest1 (s.data.toList ++ flat text4 [x.1]) x.2 x6 45 w1 hx (by rw [List.length_append, flat_one, text4_len, ba_len]; omega) (h.has (fun e he => List.mem_of_getElem? (i := 0) (by rw [List.mem_singleton.1 he]; rfl))))) (fun _ _ => (.cons _ (.cons _ (.cons _ (.cons_cons _ (.cons_cons _ .slnil)))))) ?_
      rintro ⟨⟩ -
      refine CfgA.eff 9 (o := _) rfl (by kernel_rfl) (fuel' := 0) rfl (by kernel_rfl) (by kernel_rfl) (Eff.storeN (b := rs) (off := 0) (vs := #[.string (tx (s.data.toList ++ flat text4 [x.1] ++ x.2))]) (n := 1) rfl (by kernel_rfl) (by kernel_rfl) (by kernel_rfl) rfl (by simp [one]) 2 (cs := #[.string ByteArray.empty]) (e := 52) (by kernel_rfl) (by simp)) (fun _ _ => (.cons _ (.cons _ (.cons _ (.cons_cons _ (.cons_cons _ .slnil)))))) ?_
      rintro ⟨⟩ -
      refine CfgA.setO (O' := [(x6, .cells (bv x.2) 45 (0, 0)), (x4, .cells #[.string x.1] 9 (0, 0)), (rs, .cells #[.string (tx (s.data.toList ++ flat text4 [x.1] ++ x.2))] 52 (0, 0)), (xb, .cells ((rc x).toArray) 50 (0, 0)), (o, .cells #[.string s] 52 (0, 0))]) (congrArg (fun (xq : Array Value) => ([(x6, .cells (bv x.2) 45 (0, 0)), (x4, .cells #[.string x.1] 9 (0, 0)), (rs, .cells xq 52 (0, 0)), (xb, .cells ((rc x).toArray) 50 (0, 0)), (o, .cells #[.string s] 52 (0, 0))] : List (Nat × Obj))) (rfl)) ?_
      refine CfgA.done (by kernel_rfl) ?_
      refine Conv.cfg (Γ' := [(4, [], .pointer (some ⟨rs, 0, none⟩))]) (Conv.mk (by kernel_rfl)) ?_
      refine Cfg.ret rfl (rs := [.cell 4 52]) rfl [.agg #[.string (tx (s.data.toList ++ flat text4 [x.1] ++ x.2))]] ⟨⟨_, by kernel_rfl, (fun w1 h => h.oload 2 rfl Try.underlying52 rfl (n := 1) (by kernel_rfl) rfl)⟩, trivial⟩ (fun w1 hp => ?_)
      exact ⟨by rw [flat_one, List.append_assoc]; rfl, hp.ext⟩
  ·
    refine CfgI.eff (o := _) rfl (by kernel_rfl) (by kernel_rfl) (Eff.buildAgg (vs := (bv x.2)) (n := 32) rfl (by kernel_rfl) Try.underlying111 (by kernel_rfl) (z := (.agg (bv (List.replicate 32 0)))) (by kernel_rfl) ((bv_size _).trans hx) (by decide) (by decide)) (fun _ _ => (.cons _ (.cons _ (.cons_cons _ (.cons_cons _ .slnil))))) ?_
    rintro x7 ⟨hx7, nx7⟩
    refine CfgA.eff 3 (o := _) rfl (by kernel_rfl) (fuel' := 3) rfl (by kernel_rfl) (by kernel_rfl) (Eff.buildSlice (e := 9) (cells := #[.string x.1]) (parts := #[(0, .string x.1)]) rfl (by kernel_rfl) (fun _ => by kernel_rfl)) (fun _ _ => (.cons _ (.cons _ (.cons _ (.cons_cons _ (.cons_cons _ .slnil)))))) ?_
    rintro x8 ⟨hx8, nx8⟩
    refine CfgA.eff 4 (o := _) rfl (by kernel_rfl) (fuel' := 2) rfl (by kernel_rfl) (by kernel_rfl) (Eff.callA (vs := [.agg #[.string s], .slice (some ⟨x8, 0, none⟩) 1 1]) (.agg #[.string (tx (s.data.toList ++ flat text4 [x.1]))]) rfl Try.func16 rfl rfl (by kernel_rfl) (fun w1 h => wText s (some ⟨x8, 0, none⟩) 1 [x.1] [(x8, .cells #[.string x.1] 9 (0, 0))] w1 (inS_text x8 9 (0, 0) x.1) (h.has (fun e he => List.mem_of_getElem? (i := 0) (by rw [List.mem_singleton.1 he]; rfl))) (one_len _) (by rw [flat_one, text4_len]; omega))) (fun _ _ => (.cons _ (.cons _ (.cons _ (.cons_cons _ (.cons_cons _ .slnil)))))) ?_
    rintro ⟨⟩ -
    refine CfgA.eff 8 (o := _) rfl (by kernel_rfl) (fuel' := 1) rfl (by kernel_rfl) (by kernel_rfl) (Eff.callA (vs := [.agg #[.string (tx (s.data.toList ++ flat text4 [x.1]))], .slice (some ⟨x7, 0, none⟩) 1 1]) (.agg #[.string (tx (s.data.toList ++ flat text4 [x.1] ++ x.2))]) rfl Try.func49 rfl rfl (by kernel_rfl) (fun w1 h => wDigest1 (s.data.toList ++ flat text4 [x.1]) x.2 x7 45 w1 hx (by rw [List.length_append, flat_one, text4_len, ba_len]; omega) (h.has (fun e he => List.mem_of_getElem? (i := 1) (by rw [List.mem_singleton.1 he]; rfl))))) (fun _ _ => (.cons _ (.cons _ (.cons _ (.cons_cons _ (.cons_cons _ .slnil)))))) ?_
    rintro ⟨⟩ -
    refine CfgA.eff 9 (o := _) rfl (by kernel_rfl) (fuel' := 0) rfl (by kernel_rfl) (by kernel_rfl) (Eff.storeN (b := rs) (off := 0) (vs := #[.string (tx (s.data.toList ++ flat text4 [x.1] ++ x.2))]) (n := 1) rfl (by kernel_rfl) (by kernel_rfl) (by kernel_rfl) rfl (by simp [one]) 2 (cs := #[.string ByteArray.empty]) (e := 52) (by kernel_rfl) (by simp)) (fun _ _ => (.cons _ (.cons _ (.cons _ (.cons_cons _ (.cons_cons _ .slnil)))))) ?_
    rintro ⟨⟩ -
    refine CfgA.setO (O' := [(x8, .cells #[.string x.1] 9 (0, 0)), (x7, .cells (bv x.2) 45 (0, 0)), (rs, .cells #[.string (tx (s.data.toList ++ flat text4 [x.1] ++ x.2))] 52 (0, 0)), (xb, .cells ((rc x).toArray) 50 (0, 0)), (o, .cells #[.string s] 52 (0, 0))]) (congrArg (fun (xq : Array Value) => ([(x8, .cells #[.string x.1] 9 (0, 0)), (x7, .cells (bv x.2) 45 (0, 0)), (rs, .cells xq 52 (0, 0)), (xb, .cells ((rc x).toArray) 50 (0, 0)), (o, .cells #[.string s] 52 (0, 0))] : List (Nat × Obj))) (rfl)) ?_
    refine CfgA.done (by kernel_rfl) ?_
    refine Conv.cfg (Γ' := [(4, [], .pointer (some ⟨rs, 0, none⟩))]) (Conv.mk (by kernel_rfl)) ?_
    refine Cfg.ret rfl (rs := [.cell 4 52]) rfl [.agg #[.string (tx (s.data.toList ++ flat text4 [x.1] ++ x.2))]] ⟨⟨_, by kernel_rfl, (fun w1 h => h.oload 2 rfl Try.underlying52 rfl (n := 1) (by kernel_rfl) rfl)⟩, trivial⟩ (fun w1 hp => ?_)
    exact ⟨by rw [flat_one, List.append_assoc]; rfl, hp.ext⟩

set_option maxRecDepth 100000 in
theorem wRowR (s : ByteArray) (la : Option Addr) (cap : Nat) (xs : List Rf) (Rl : List (Nat × Obj)) (w : World) (hI : InR Rl la xs) (hW : W32 xs) (hR : Has w Rl) (hn : xs.length ≤ maxLen) (h32 : xs.length < 4294967296) (hr : s.size + (rowR xs).length ≤ 140737488355328) :
    Calls Try.prog 17 #[.agg #[.string s], .slice la xs.length cap, .func (.func 18) #[] #[]] w fun e w' => e = .returned (.agg #[.string (tx (s.data.toList ++ rowR xs))]) ∧ Ext [] w w' := by
  unfold maxLen at hn
  have hts := tx_size
  refine enter (vs := [.agg #[.string s], .slice la xs.length cap, .func (.func 18) #[] #[]]) [] Rl [] Try.func17 rfl (by kernel_rfl) (HP.ofHas hR) ?_
  refine Cfg.begL rfl ?_
  refine CfgL.eff (o := _) rfl (by kernel_rfl) (by kernel_rfl) (Eff.box (v := .agg #[.string s]) rfl (by kernel_rfl)) ?_
  rintro o ⟨ho, no⟩
  refine CfgL.eff (o := _) rfl (by kernel_rfl) (by kernel_rfl) (Eff.alloc (z := (.agg #[.string ByteArray.empty])) rfl (by kernel_rfl)) ?_
  rintro rs ⟨hrs, nrs⟩
  refine CfgL.done rfl ?_
  refine Conv.cfg (Γ' := [(6, [], .pointer (some ⟨rs, 0, none⟩)), (3, [], .pointer (some ⟨o, 0, none⟩)), (1, [], .slice la xs.length cap), (2, [], .func (.func 18) #[] #[])]) (Conv.mk (by kernel_rfl)) ?_
  have hmod : ((xs.length : Int) % 4294967296) = (xs.length : Int) := by omega
  refine Cfg.begL rfl ?_
  refine CfgL.pure 4 [(0, false, some (.agg #[.string s]))] none (Γ' := [(12, [], .int .u32 ((xs.length : Int) % 4294967296)), (11, [], .int .i64 (xs.length : Int)), (10, [], .slice la xs.length cap), (9, [], .agg #[.string s]), (6, [], .pointer (some ⟨rs, 0, none⟩)), (3, [], .pointer (some ⟨o, 0, none⟩)), (1, [], .slice la xs.length cap), (2, [], .func (.func 18) #[] #[])]) (nd := (fun S => [(∀ w1, S w1 → (loadVar 52 ⟨o, 0, none⟩).run Try.prog w1 = .ok (.agg #[.string s]) w1)])) (by kernel_rfl) (fun _ => by kernel_rfl) ⟨(fun w1 h => h.oload 1 rfl Try.underlying52 rfl (n := 1) (by kernel_rfl) rfl), trivial⟩ ?_
  refine CfgL.eff (o := _) rfl (by kernel_rfl) (by kernel_rfl) (Eff.buildSlice (e := 90) (cells := #[.int .u32 ((xs.length : Int) % 4294967296)]) (parts := #[(0, .int .u32 ((xs.length : Int) % 4294967296))]) rfl (by kernel_rfl) (fun _ => by kernel_rfl)) ?_
  rintro x3 ⟨hx3, nx3⟩
  refine CfgL.eff (o := _) rfl (by kernel_rfl) (by kernel_rfl) (Eff.callA (vs := [.agg #[.string s], .slice (some ⟨x3, 0, none⟩) 1 1]) (.agg #[.string (tx (s.data.toList ++ flat four [xs.length]))]) rfl Try.func48 rfl rfl (by kernel_rfl) (fun w1 h => wFour s (some ⟨x3, 0, none⟩) 1 [xs.length] [(x3, .cells #[.int .u32 (xs.length : Int)] 90 (0, 0))] w1 (inS_num x3 90 (0, 0) .u32 xs.length) (by have hq := h.own (x3, .cells #[.int .u32 ((xs.length : Int) % 4294967296)] 90 (0, 0)) (List.mem_of_getElem? (i := 0) rfl); rw [hmod] at hq; intro e he; rw [List.mem_singleton.1 he]; exact hq) (by simp [maxLen]) (row_roomR hr) (one_get h32 (by decide)))) ?_
  rintro ⟨⟩ -
  refine CfgL.eff (o := _) rfl (by kernel_rfl) (by kernel_rfl) (Eff.storeN (b := o) (off := 0) (vs := #[.string (tx (s.data.toList ++ flat four [xs.length]))]) (n := 1) rfl (by kernel_rfl) (by kernel_rfl) (by kernel_rfl) rfl (by simp [one]) 2 (cs := #[.string s]) (e := 52) (by kernel_rfl) (by simp)) ?_
  rintro ⟨⟩ -
  refine CfgL.setO (O' := [(x3, .cells #[.int .u32 ((xs.length : Int) % 4294967296)] 90 (0, 0)), (rs, .cells #[.string ByteArray.empty] 52 (0, 0)), (o, .cells #[.string (tx (s.data.toList ++ flat four [xs.length]))] 52 (0, 0))]) (congrArg (fun (xq : Array Value) => ([(x3, .cells #[.int .u32 ((xs.length : Int) % 4294967296)] 90 (0, 0)), (rs, .cells #[.string ByteArray.empty] 52 (0, 0)), (o, .cells xq 52 (0, 0))] : List (Nat × Obj))) (rfl)) ?_
  refine CfgL.done rfl ?_
  refine Conv.cfg (Γ' := [(6, [], .pointer (some ⟨rs, 0, none⟩)), (3, [], .pointer (some ⟨o, 0, none⟩)), (1, [], .slice la xs.length cap), (2, [], .func (.func 18) #[] #[])]) (Conv.mk (by kernel_rfl)) ?_
  refine Cfg.reg rfl [2, 3, 6, 15, 16, 17] [] (Γ' := [(17, [], .int .i64 0), (16, [], .int .i64 (xs.length : Int)), (15, [], .slice la xs.length cap), (6, [], .pointer (some ⟨rs, 0, none⟩)), (3, [], .pointer (some ⟨o, 0, none⟩)), (2, [], .func (.func 18) #[] #[])]) (nd := (fun _ => [])) (fun _ => by kernel_rfl) trivial ?_
  refine Cfg.setO (O' := [(x3, .cells #[.int .u32 ((xs.length : Int) % 4294967296)] 90 (0, 0)), (rs, .cells #[.string ByteArray.empty] 52 (0, 0)), (o, .cells #[.string (tx (s.data.toList ++ (four xs.length ++ flat refL (xs.take 0))))] 52 (0, 0))]) (congrArg (fun (xq : Array Value) => ([(x3, .cells #[.int .u32 ((xs.length : Int) % 4294967296)] 90 (0, 0)), (rs, .cells #[.string ByteArray.empty] 52 (0, 0)), (o, .cells xq 52 (0, 0))] : List (Nat × Obj))) (by rw [flat_one, List.take_zero, flat_nil, List.append_nil])) ?_
  refine Cfg.loop rfl (ι := Nat) (fun (i : Nat) => [(17, [], .int .i64 (i : Int)), (16, [], .int .i64 (xs.length : Int)), (15, [], .slice la xs.length cap), (6, [], .pointer (some ⟨rs, 0, none⟩)), (3, [], .pointer (some ⟨o, 0, none⟩)), (2, [], .func (.func 18) #[] #[])]) (fun (i : Nat) => [(rs, .cells #[.string ByteArray.empty] 52 (0, 0)), (o, .cells #[.string (tx (s.data.toList ++ (four xs.length ++ flat refL (xs.take i))))] 52 (0, 0))]) (fun (i : Nat) => (i ≤ xs.length)) (fun (i : Nat) => xs.length - i) 0 ?_ (Conv.mk (by kernel_rfl)) (.cons _ (.cons_cons _ (.cons_cons _ .slnil))) ?_
  · exact Nat.zero_le _
  · rintro i hi
    refine Cfg.reg rfl [2, 3, 6, 15, 16, 17, 18] [] (Γ' := [(18, [], .bool (decide ((i : Int) < (xs.length : Int)))), (17, [], .int .i64 (i : Int)), (16, [], .int .i64 (xs.length : Int)), (15, [], .slice la xs.length cap), (6, [], .pointer (some ⟨rs, 0, none⟩)), (3, [], .pointer (some ⟨o, 0, none⟩)), (2, [], .func (.func 18) #[] #[])]) (nd := (fun _ => [])) (fun _ => by kernel_rfl) trivial ?_
    refine Cfg.cond rfl (b := (decide ((i : Int) < (xs.length : Int)))) (by kernel_rfl) (fun c1r => ?_) (fun c1r => ?_)
    · have c1 : ((i : Int) < (xs.length : Int)) := (of_decide_eq_true c1r)
      have hroom : (tx (s.data.toList ++ (four xs.length ++ flat refL (xs.take i)))).size + (36 + (xs.getD i rz).1.size) ≤ 140737488355328 := by
        have hpt := flat_part (f := refL) (l := xs) (i := i) rz (by omega)
        rw [refL_len (hW.at i)] at hpt
        have h1 : (rowR xs).length = (four xs.length).length + (flat refL xs).length := by unfold rowR; rw [List.length_append]
        rw [tx_size, List.length_append, List.length_append, ba_len]; omega
      obtain ⟨sb, off, cs, te, fre, rfl, hmem, hcs⟩ := hI (by omega)
      refine Conv.cfg (Γ' := [(18, [], .bool (decide ((i : Int) < (xs.length : Int)))), (17, [], .int .i64 (i : Int)), (16, [], .int .i64 (xs.length : Int)), (15, [], .slice (some ⟨sb, off, none⟩) xs.length cap), (6, [], .pointer (some ⟨rs, 0, none⟩)), (3, [], .pointer (some ⟨o, 0, none⟩)), (2, [], .func (.func 18) #[] #[])]) (Conv.mk (by kernel_rfl)) ?_
      refine Cfg.begL rfl ?_
      refine CfgL.pure 2 [(0, false, none), (0, false, some (.agg (rc (xs.getD i rz)).toArray))] none (Γ' := [(20, [], .agg (rc (xs.getD i rz)).toArray), (19, [], .pointer (some ⟨sb, (addO off (i * 33)), none⟩)), (18, [], .bool (decide ((i : Int) < (xs.length : Int)))), (17, [], .int .i64 (i : Int)), (16, [], .int .i64 (xs.length : Int)), (15, [], .slice (some ⟨sb, off, none⟩) xs.length cap), (6, [], .pointer (some ⟨rs, 0, none⟩)), (3, [], .pointer (some ⟨o, 0, none⟩)), (2, [], .func (.func 18) #[] #[])]) (nd := (fun S => [(0 ≤ (i : Int) ∧ (i : Int) < (xs.length : Int)), (∀ w1, S w1 → (loadVar 50 ⟨sb, (addO off (i * 33)), none⟩).run Try.prog w1 = .ok (.agg (rc (xs.getD i rz)).toArray) w1)])) (by kernel_rfl) (fun _ => by kernel_rfl) ⟨(by omega), (fun w1 h => load_list Try.underlying50 rfl (by kernel_rfl) (rc_len (hW.at i)) (fun j v hj => by rw [addO_eq]; exact (cell_cells (h.ro _ hmem)).trans (ref_cell hW hcs (by omega) hj))), trivial⟩ ?_
      refine CfgL.eff (o := _) rfl (by kernel_rfl) (by kernel_rfl) (Eff.alloc (z := (.agg (rc rz).toArray)) rfl (by kernel_rfl)) ?_
      rintro xb ⟨hxb, nxb⟩
      refine CfgL.eff (o := _) rfl (by kernel_rfl) (by kernel_rfl) (Eff.storeN (b := xb) (off := 0) (vs := (rc (xs.getD i rz)).toArray) (n := 33) rfl (by kernel_rfl) (by kernel_rfl) (by kernel_rfl) (by rw [List.size_toArray, rc_len (hW.at i)]) (rc_all _) 0 (cs := (rc rz).toArray) (e := 50) (by kernel_rfl) (by show 0 + 33 ≤ 33; decide)) ?_
      rintro ⟨⟩ -
      refine CfgL.setO (O' := [(xb, .cells ((rc (xs.getD i rz)).toArray) 50 (0, 0)), (rs, .cells #[.string ByteArray.empty] 52 (0, 0)), (o, .cells #[.string (tx (s.data.toList ++ (four xs.length ++ flat refL (xs.take i))))] 52 (0, 0))]) (congrArg (fun (xq : Array Value) => ([(xb, .cells xq 50 (0, 0)), (rs, .cells #[.string ByteArray.empty] 52 (0, 0)), (o, .cells #[.string (tx (s.data.toList ++ (four xs.length ++ flat refL (xs.take i))))] 52 (0, 0))] : List (Nat × Obj))) (spl_all (by rw [List.size_toArray, rc_len (hW.at i)]; rfl))) ?_
      refine CfgL.done rfl ?_
      refine Conv.cfg (Γ' := [(8, [], .pointer (some ⟨xb, 0, none⟩)), (17, [], .int .i64 (i : Int)), (16, [], .int .i64 (xs.length : Int)), (15, [], .slice (some ⟨sb, off, none⟩) xs.length cap), (6, [], .pointer (some ⟨rs, 0, none⟩)), (3, [], .pointer (some ⟨o, 0, none⟩)), (2, [], .func (.func 18) #[] #[])]) (Conv.mk (by kernel_rfl)) ?_
      refine Cfg.begL rfl ?_
      refine CfgL.pure 3 [(0, false, none), (0, false, some (.agg #[.string (tx (s.data.toList ++ (four xs.length ++ flat refL (xs.take i))))])), (0, false, some (.agg (rc (xs.getD i rz)).toArray))] none (Γ' := [(23, [], .agg (rc (xs.getD i rz)).toArray), (22, [], .agg #[.string (tx (s.data.toList ++ (four xs.length ++ flat refL (xs.take i))))]), (21, [], .func (.func 18) #[] #[]), (8, [], .pointer (some ⟨xb, 0, none⟩)), (17, [], .int .i64 (i : Int)), (16, [], .int .i64 (xs.length : Int)), (15, [], .slice (some ⟨sb, off, none⟩) xs.length cap), (6, [], .pointer (some ⟨rs, 0, none⟩)), (3, [], .pointer (some ⟨o, 0, none⟩)), (2, [], .func (.func 18) #[] #[])]) (nd := (fun S => [(∀ w1, S w1 → (loadVar 52 ⟨o, 0, none⟩).run Try.prog w1 = .ok (.agg #[.string (tx (s.data.toList ++ (four xs.length ++ flat refL (xs.take i))))]) w1), (∀ w1, S w1 → (loadVar 50 ⟨xb, 0, none⟩).run Try.prog w1 = .ok (.agg (rc (xs.getD i rz)).toArray) w1)])) (by kernel_rfl) (fun _ => by kernel_rfl) ⟨(fun w1 h => h.oload 2 rfl Try.underlying52 rfl (n := 1) (by kernel_rfl) rfl), (fun w1 h => h.oload 0 rfl Try.underlying50 rfl (n := 33) (by kernel_rfl) (by rw [List.size_toArray, rc_len (hW.at i)])), trivial⟩ ?_
      refine CfgL.eff (o := _) rfl (by kernel_rfl) (by kernel_rfl) (Eff.callAV (vs := [.agg #[.string (tx (s.data.toList ++ (four xs.length ++ flat refL (xs.take i))))], .agg (rc (xs.getD i rz)).toArray]) (.agg #[.string (tx ((tx (s.data.toList ++ (four xs.length ++ flat refL (xs.take i)))).data.toList ++ refL (xs.getD i rz)))]) rfl (by kernel_rfl) Try.func18 rfl rfl (by kernel_rfl) (fun w1 h => layR _ _ w1 (hW.at i) hroom)) ?_
      rintro ⟨⟩ -
      refine CfgL.eff (o := _) rfl (by kernel_rfl) (by kernel_rfl) (Eff.storeN (b := o) (off := 0) (vs := #[.string (tx ((tx (s.data.toList ++ (four xs.length ++ flat refL (xs.take i)))).data.toList ++ refL (xs.getD i rz)))]) (n := 1) rfl (by kernel_rfl) (by kernel_rfl) (by kernel_rfl) rfl (by simp [one]) 2 (cs := #[.string (tx (s.data.toList ++ (four xs.length ++ flat refL (xs.take i))))]) (e := 52) (by kernel_rfl) (by simp)) ?_
      rintro ⟨⟩ -
      refine CfgL.setO (O' := [(xb, .cells ((rc (xs.getD i rz)).toArray) 50 (0, 0)), (rs, .cells #[.string ByteArray.empty] 52 (0, 0)), (o, .cells #[.string (tx ((tx (s.data.toList ++ (four xs.length ++ flat refL (xs.take i)))).data.toList ++ refL (xs.getD i rz)))] 52 (0, 0))]) (congrArg (fun (xq : Array Value) => ([(xb, .cells ((rc (xs.getD i rz)).toArray) 50 (0, 0)), (rs, .cells #[.string ByteArray.empty] 52 (0, 0)), (o, .cells xq 52 (0, 0))] : List (Nat × Obj))) (rfl)) ?_
      refine CfgL.done rfl ?_
      refine Conv.cfg (Γ' := [(17, [], .int .i64 (i : Int)), (16, [], .int .i64 (xs.length : Int)), (15, [], .slice (some ⟨sb, off, none⟩) xs.length cap), (6, [], .pointer (some ⟨rs, 0, none⟩)), (3, [], .pointer (some ⟨o, 0, none⟩)), (2, [], .func (.func 18) #[] #[])]) (Conv.mk (by kernel_rfl)) ?_
      refine Cfg.reg rfl [2, 3, 6, 15, 16, 17] [] (Γ' := [(17, [], .int .i64 ((i : Int) + 1)), (16, [], .int .i64 (xs.length : Int)), (15, [], .slice (some ⟨sb, off, none⟩) xs.length cap), (6, [], .pointer (some ⟨rs, 0, none⟩)), (3, [], .pointer (some ⟨o, 0, none⟩)), (2, [], .func (.func 18) #[] #[])]) (nd := (fun _ => [((-9223372036854775808 : Int) ≤ ((i : Int) + 1) ∧ ((i : Int) + 1) ≤ 9223372036854775807)])) (fun _ => by kernel_rfl) ⟨(by omega), trivial⟩ ?_
      refine Cfg.setO (O' := [(xb, .cells ((rc (xs.getD i rz)).toArray) 50 (0, 0)), (rs, .cells #[.string ByteArray.empty] 52 (0, 0)), (o, .cells #[.string (tx (s.data.toList ++ (four xs.length ++ flat refL (xs.take (i + 1)))))] 52 (0, 0))]) (congrArg (fun (xq : Array Value) => ([(xb, .cells ((rc (xs.getD i rz)).toArray) 50 (0, 0)), (rs, .cells #[.string ByteArray.empty] 52 (0, 0)), (o, .cells xq 52 (0, 0))] : List (Nat × Obj))) (by rw [tx_list, flat_succ rz (by omega), List.append_assoc, List.append_assoc])) ?_
      refine Cfg.again rfl (i + 1) (show i + 1 ≤ xs.length by omega) (by omega) (Conv.mk (by kernel_rfl)) (.cons _ (.cons_cons _ (.cons_cons _ .slnil)))
    · have c1 : (¬ ((i : Int) < (xs.length : Int))) := (of_decide_eq_false c1r)
      obtain rfl : i = xs.length := by omega
      refine Cfg.setO (O' := [(rs, .cells #[.string ByteArray.empty] 52 (0, 0)), (o, .cells #[.string (tx (s.data.toList ++ rowR xs))] 52 (0, 0))]) (congrArg (fun (xq : Array Value) => ([(rs, .cells #[.string ByteArray.empty] 52 (0, 0)), (o, .cells xq 52 (0, 0))] : List (Nat × Obj))) (by rw [List.take_length]; rfl)) ?_
      refine Conv.cfg (Γ' := [(16, [], .int .i64 (xs.length : Int)), (15, [], .slice la xs.length cap), (6, [], .pointer (some ⟨rs, 0, none⟩)), (3, [], .pointer (some ⟨o, 0, none⟩)), (2, [], .func (.func 18) #[] #[])]) (Conv.mk (by kernel_rfl)) ?_
      refine Cfg.begL rfl ?_
      refine CfgL.pure 1 [(0, false, some (.agg #[.string (tx (s.data.toList ++ rowR xs))]))] none (Γ' := [(26, [], .agg #[.string (tx (s.data.toList ++ rowR xs))]), (16, [], .int .i64 (xs.length : Int)), (15, [], .slice la xs.length cap), (6, [], .pointer (some ⟨rs, 0, none⟩)), (3, [], .pointer (some ⟨o, 0, none⟩)), (2, [], .func (.func 18) #[] #[])]) (nd := (fun S => [(∀ w1, S w1 → (loadVar 52 ⟨o, 0, none⟩).run Try.prog w1 = .ok (.agg #[.string (tx (s.data.toList ++ rowR xs))]) w1)])) (by kernel_rfl) (fun _ => by kernel_rfl) ⟨(fun w1 h => h.oload 1 rfl Try.underlying52 rfl (n := 1) (by kernel_rfl) rfl), trivial⟩ ?_
      refine CfgL.eff (o := _) rfl (by kernel_rfl) (by kernel_rfl) (Eff.storeN (b := rs) (off := 0) (vs := #[.string (tx (s.data.toList ++ rowR xs))]) (n := 1) rfl (by kernel_rfl) (by kernel_rfl) (by kernel_rfl) rfl (by simp [one]) 0 (cs := #[.string ByteArray.empty]) (e := 52) (by kernel_rfl) (by simp)) ?_
      rintro ⟨⟩ -
      refine CfgL.setO (O' := [(rs, .cells #[.string (tx (s.data.toList ++ rowR xs))] 52 (0, 0)), (o, .cells #[.string (tx (s.data.toList ++ rowR xs))] 52 (0, 0))]) (congrArg (fun (xq : Array Value) => ([(rs, .cells xq 52 (0, 0)), (o, .cells #[.string (tx (s.data.toList ++ rowR xs))] 52 (0, 0))] : List (Nat × Obj))) (rfl)) ?_
      refine CfgL.done rfl ?_
      refine Conv.cfg (Γ' := [(6, [], .pointer (some ⟨rs, 0, none⟩))]) (Conv.mk (by kernel_rfl)) ?_
      refine Cfg.ret rfl (rs := [.cell 6 52]) rfl [.agg #[.string (tx (s.data.toList ++ rowR xs))]] ⟨⟨_, by kernel_rfl, (fun w1 h => h.oload 0 rfl Try.underlying52 rfl (n := 1) (by kernel_rfl) rfl)⟩, trivial⟩ (fun w1 hp => ?_)
      exact ⟨rfl, hp.ext⟩

set_option maxRecDepth 100000 in
theorem tkR (b : Nat) (z : IN) (w : World) (hB : w.heap[b]? = some (.cells (inC z) 98 (0, 0))) :
    Calls Try.prog 28 #[.pointer (some ⟨b, 0, none⟩)] w fun e w' => e = .returned (.agg (rc (takeR z).1).toArray) ∧ Ext [b] w w' ∧ w'.heap[b]? = some (.cells (inC (takeR z).2) 98 (0, 0)) := by
  refine enter (vs := [.pointer (some ⟨b, 0, none⟩)]) [b] [] [(b, .cells (inC z) 98 (0, 0))] Try.func28 rfl (by kernel_rfl) (HP.startM (R := []) (fun _ h => by cases h) hB (by simp)) ?_
  refine Cfg.begL rfl ?_
  refine CfgL.eff (o := _) rfl (by kernel_rfl) (by kernel_rfl) (Eff.alloc (z := (.agg (rc rz).toArray)) rfl (by kernel_rfl)) ?_
  rintro rs ⟨hrs, nrs⟩
  refine CfgL.done rfl ?_
  refine Cfg.begL rfl ?_
  refine CfgL.pure 1 [] none (Γ' := [(4, [], .pointer (some ⟨b, 0, none⟩)), (2, [], .pointer (some ⟨rs, 0, none⟩)), (0, [], .pointer (some ⟨b, 0, none⟩))]) (nd := (fun _ => [])) (by kernel_rfl) (fun _ => by kernel_rfl) trivial ?_
  refine CfgL.eff (o := _) rfl (by kernel_rfl) (by kernel_rfl) (Eff.callM (vs := [.pointer (some ⟨b, 0, none⟩), .int .i64 24]) (.string (tx (textF z (24 : Int)).1)) 1 (b := b) (ob := .cells (inC z) 98 (0, 0)) (.cells (inC ((textF z (24 : Int)).2)) 98 (0, 0)) rfl Try.func26 rfl rfl (by kernel_rfl) (by kernel_rfl) (fun w1 h => wTText b z (24 : Int) w1 (h.own (b, _) (List.mem_of_getElem? (i := 1) rfl)) (by omega))) ?_
  rintro ⟨⟩ -
  refine CfgL.pure 1 [] (some [0, 2, 3]) (Γ' := [(3, [], .string (tx (textF z (24 : Int)).1)), (2, [], .pointer (some ⟨rs, 0, none⟩)), (0, [], .pointer (some ⟨b, 0, none⟩))]) (nd := (fun _ => [])) (by kernel_rfl) (fun _ => by kernel_rfl) trivial ?_
  refine CfgL.done rfl ?_
  refine Cfg.begL rfl ?_
  refine CfgL.pure 2 [] none (Γ' := [(7, [], .pointer (some ⟨b, 0, none⟩)), (6, [], .string (tx (textF z (24 : Int)).1)), (3, [], .string (tx (textF z (24 : Int)).1)), (2, [], .pointer (some ⟨rs, 0, none⟩)), (0, [], .pointer (some ⟨b, 0, none⟩))]) (nd := (fun _ => [])) (by kernel_rfl) (fun _ => by kernel_rfl) trivial ?_
  refine CfgL.eff (o := _) rfl (by kernel_rfl) (by kernel_rfl) (Eff.callM (vs := [.pointer (some ⟨b, 0, none⟩)]) (.agg (bv (digF ((textF z (24 : Int)).2)).1)) 1 (b := b) (ob := .cells (inC ((textF z (24 : Int)).2)) 98 (0, 0)) (.cells (inC ((digF ((textF z (24 : Int)).2)).2)) 98 (0, 0)) rfl Try.func57 rfl rfl (by kernel_rfl) (by kernel_rfl) (fun w1 h => wTDigest b ((textF z (24 : Int)).2) w1 (h.own (b, _) (List.mem_of_getElem? (i := 1) rfl)))) ?_
  rintro ⟨⟩ -
  refine CfgL.pure 1 [(0, false, some (.agg (rc (takeR z).1).toArray))] none (Γ' := [(9, [], .agg (rc (takeR z).1).toArray), (8, [], .agg (bv (digF ((textF z (24 : Int)).2)).1)), (7, [], .pointer (some ⟨b, 0, none⟩)), (6, [], .string (tx (textF z (24 : Int)).1)), (3, [], .string (tx (textF z (24 : Int)).1)), (2, [], .pointer (some ⟨rs, 0, none⟩)), (0, [], .pointer (some ⟨b, 0, none⟩))]) (nd := (fun S => [(∀ w1, S w1 → (Instr.build 50 #[(0, .string (tx (textF z (24 : Int)).1)), (1, .agg (bv (digF ((textF z (24 : Int)).2)).1))]).run Try.prog w1 = .ok (.agg (rc (takeR z).1).toArray) w1)])) (by kernel_rfl) (fun _ => by kernel_rfl) ⟨(fun w1 _ => build_ref (tx (textF z 24).1) (t := (digF (textF z 24).2).1) (dig32_len _) w1), trivial⟩ ?_
  refine CfgL.eff (o := _) rfl (by kernel_rfl) (by kernel_rfl) (Eff.storeN (b := rs) (off := 0) (vs := (rc (takeR z).1).toArray) (n := 33) rfl (by kernel_rfl) (by kernel_rfl) (by kernel_rfl) (by rw [List.size_toArray, rc_len (dig32_len _)]) (rc_all _) 0 (cs := (rc rz).toArray) (e := 50) (by kernel_rfl) (by show 0 + 33 ≤ 33; decide)) ?_
  rintro ⟨⟩ -
  refine CfgL.setO (O' := [(rs, .cells ((rc (takeR z).1).toArray) 50 (0, 0)), (b, .cells (inC ((digF ((textF z (24 : Int)).2)).2)) 98 (0, 0))]) (congrArg (fun (xq : Array Value) => ([(rs, .cells xq 50 (0, 0)), (b, .cells (inC ((digF ((textF z (24 : Int)).2)).2)) 98 (0, 0))] : List (Nat × Obj))) (spl_all (by rw [List.size_toArray, rc_len (dig32_len _)]; rfl))) ?_
  refine CfgL.done rfl ?_
  refine Conv.cfg (Γ' := [(2, [], .pointer (some ⟨rs, 0, none⟩))]) (Conv.mk (by kernel_rfl)) ?_
  refine Cfg.ret rfl (rs := [.cell 2 50]) rfl [.agg (rc (takeR z).1).toArray] ⟨⟨_, by kernel_rfl, (fun w1 h => h.oload 0 rfl Try.underlying50 rfl (n := 33) (by kernel_rfl) (by rw [List.size_toArray, rc_len (dig32_len _)]))⟩, trivial⟩ (fun w1 hp => ?_)
  exact ⟨rfl, hp.ext, hp.own (b, _) (List.mem_of_getElem? (i := 1) rfl)⟩

set_option maxRecDepth 100000 in
theorem wRowsR (b : Nat) (z : IN) (w : World) (hB : w.heap[b]? = some (.cells (inC z) 98 (0, 0))) :
    Calls Try.prog 27 #[.pointer (some ⟨b, 0, none⟩), .int .i64 16, .func (.func 28) #[] #[]] w fun e w' => ∃ o : K.Own, OwnOk o 33 (rowsT takeR z 16).1.length (rv (rowsT takeR z 16).1) ∧ e = .returned (.slice o.a (rowsT takeR z 16).1.length o.c) ∧ Ext [b] w w' ∧ w'.heap[b]? = some (.cells (inC (rowsT takeR z 16).2) 98 (0, 0)) ∧ Has w' (o.o 50 (rv (rowsT takeR z 16).1)) ∧ (∀ x ∈ o.o 50 (rv (rowsT takeR z 16).1), w.heap.size ≤ x.1) := by
  have hbm := bound16 z
  refine enter (vs := [.pointer (some ⟨b, 0, none⟩), .int .i64 16, .func (.func 28) #[] #[]]) [b] [] [(b, .cells (inC z) 98 (0, 0))] Try.func27 rfl (by kernel_rfl) (HP.startM (R := []) (fun _ h => by cases h) hB (by simp)) ?_
  refine Cfg.reg rfl [0, 1, 2] [] (Γ' := [(0, [], .pointer (some ⟨b, 0, none⟩)), (1, [], .int .i64 16), (2, [], .func (.func 28) #[] #[])]) (nd := (fun _ => [])) (fun _ => by kernel_rfl) trivial ?_
  refine Cfg.reg rfl [0, 1, 2, 7] [] (Γ' := [(7, [], .slice none 0 0), (0, [], .pointer (some ⟨b, 0, none⟩)), (1, [], .int .i64 16), (2, [], .func (.func 28) #[] #[])]) (nd := (fun _ => [])) (fun _ => by kernel_rfl) trivial ?_
  refine Cfg.begL rfl ?_
  refine CfgL.pure 2 [] none (Γ' := [(10, [], .int .i64 16), (9, [], .pointer (some ⟨b, 0, none⟩)), (7, [], .slice none 0 0), (0, [], .pointer (some ⟨b, 0, none⟩)), (1, [], .int .i64 16), (2, [], .func (.func 28) #[] #[])]) (nd := (fun _ => [])) (by kernel_rfl) (fun _ => by kernel_rfl) trivial ?_
  refine CfgL.eff (o := _) rfl (by kernel_rfl) (by kernel_rfl) (Eff.callM (vs := [.pointer (some ⟨b, 0, none⟩), .int .i64 16]) (.int .i64 ((boundF z (16 : Int) 6).1 : Int)) 0 (b := b) (ob := .cells (inC z) 98 (0, 0)) (.cells (inC ((boundF z (16 : Int) 6).2)) 98 (0, 0)) rfl Try.func55 rfl rfl (by kernel_rfl) (by kernel_rfl) (fun w1 h => wCount b z (16 : Int) w1 (h.own (b, _) (List.mem_of_getElem? (i := 0) rfl)) (by omega))) ?_
  rintro ⟨⟩ -
  refine CfgL.pure 1 [] (some [0, 2, 7, 11, 12]) (Γ' := [(12, [], .int .i64 0), (11, [], .int .i64 ((boundF z (16 : Int) 6).1 : Int)), (7, [], .slice none 0 0), (0, [], .pointer (some ⟨b, 0, none⟩)), (2, [], .func (.func 28) #[] #[])]) (nd := (fun _ => [])) (by kernel_rfl) (fun _ => by kernel_rfl) trivial ?_
  refine CfgL.done rfl ?_
  refine Cfg.loop rfl (ι := Nat × IN × List Rf × K.Own) (fun (xz : Nat × IN × List Rf × K.Own) => match xz with | (i, y, acc, own) => [(12, [], .int .i64 (i : Int)), (11, [], .int .i64 ((boundF z (16 : Int) 6).1 : Int)), (7, [], .slice (Own.a own) acc.length (Own.c own)), (0, [], .pointer (some ⟨b, 0, none⟩)), (2, [], .func (.func 28) #[] #[])]) (fun (xz : Nat × IN × List Rf × K.Own) => match xz with | (i, y, acc, own) => ([(b, .cells (inC y) 98 (0, 0))] ++ (Own.o 50 (rv acc) own ++ []))) (fun (xz : Nat × IN × List Rf × K.Own) => match xz with | (i, y, acc, own) => (RowAt takeR (boundF z 16 6).1 (boundF z 16 6).2 i y acc) ∧ (OwnOk own 33 acc.length (rv acc))) (fun (xz : Nat × IN × List Rf × K.Own) => match xz with | (i, y, acc, own) => (boundF z 16 6).1 - i) (0, (boundF z 16 6).2, [], none) ?_ (Conv.mk (by kernel_rfl)) (List.Sublist.refl _) ?_
  · exact ⟨RowAt.start _ _ _, OwnOk.none _⟩
  · rintro ⟨i, y, acc, own⟩ ⟨hra, hok⟩
    have hal := hra.len
    have hle := hra.le
    refine Cfg.reg rfl [0, 2, 7, 11, 12, 13] [] (Γ' := [(13, [], .bool (decide ((i : Int) < ((boundF z (16 : Int) 6).1 : Int)))), (12, [], .int .i64 (i : Int)), (11, [], .int .i64 ((boundF z (16 : Int) 6).1 : Int)), (7, [], .slice (Own.a own) acc.length (Own.c own)), (0, [], .pointer (some ⟨b, 0, none⟩)), (2, [], .func (.func 28) #[] #[])]) (nd := (fun _ => [])) (fun _ => by kernel_rfl) trivial ?_
    refine Cfg.cond rfl (b := (decide ((i : Int) < ((boundF z (16 : Int) 6).1 : Int)))) (by kernel_rfl) (fun c1r => ?_) (fun c1r => ?_)
    · have c1 : ((i : Int) < ((boundF z (16 : Int) 6).1 : Int)) := (of_decide_eq_true c1r)
      refine Cfg.begL rfl ?_
      refine CfgL.pure 2 [] none (Γ' := [(15, [], .pointer (some ⟨b, 0, none⟩)), (14, [], .func (.func 28) #[] #[]), (13, [], .bool (decide ((i : Int) < ((boundF z (16 : Int) 6).1 : Int)))), (12, [], .int .i64 (i : Int)), (11, [], .int .i64 ((boundF z (16 : Int) 6).1 : Int)), (7, [], .slice (Own.a own) acc.length (Own.c own)), (0, [], .pointer (some ⟨b, 0, none⟩)), (2, [], .func (.func 28) #[] #[])]) (nd := (fun _ => [])) (by kernel_rfl) (fun _ => by kernel_rfl) trivial ?_
      refine CfgL.eff (o := _) rfl (by kernel_rfl) (by kernel_rfl) (Eff.callMV (vs := [.pointer (some ⟨b, 0, none⟩)]) (.agg (rc (takeR y).1).toArray) 0 (b := b) (ob := .cells (inC y) 98 (0, 0)) (.cells (inC (takeR y).2) 98 (0, 0)) rfl (by kernel_rfl) Try.func28 rfl rfl (by kernel_rfl) (by kernel_rfl) (fun w1 h => tkR b y w1 (h.own (b, _) (List.mem_of_getElem? (i := 0) rfl)))) ?_
      rintro ⟨⟩ -
      refine CfgL.eff (o := _) rfl (by kernel_rfl) (by kernel_rfl) (Eff.alloc (z := (.agg (rc rz).toArray)) rfl (by kernel_rfl)) ?_
      rintro xb ⟨hxb, nxb⟩
      refine CfgL.eff (o := _) rfl (by kernel_rfl) (by kernel_rfl) (Eff.storeN (b := xb) (off := 0) (vs := (rc (takeR y).1).toArray) (n := 33) rfl (by kernel_rfl) (by kernel_rfl) (by kernel_rfl) (by rw [List.size_toArray, rc_len (dig32_len _)]) (rc_all _) 0 (cs := (rc rz).toArray) (e := 50) (by kernel_rfl) (by show 0 + 33 ≤ 33; decide)) ?_
      rintro ⟨⟩ -
      refine CfgL.setO (O' := ([(xb, .cells ((rc (takeR y).1).toArray) 50 (0, 0)), (b, .cells (inC ((takeR y).2)) 98 (0, 0))] ++ (Own.o 50 (rv acc) own ++ []))) (congrArg (fun (xq : Array Value) => (([(xb, .cells xq 50 (0, 0)), (b, .cells (inC ((takeR y).2)) 98 (0, 0))] ++ (Own.o 50 (rv acc) own ++ [])) : List (Nat × Obj))) (spl_all (by rw [List.size_toArray, rc_len (dig32_len _)]; rfl))) ?_
      refine CfgL.done rfl ?_
      refine Conv.cfg (Γ' := [(8, [], .pointer (some ⟨xb, 0, none⟩)), (12, [], .int .i64 (i : Int)), (11, [], .int .i64 ((boundF z (16 : Int) 6).1 : Int)), (7, [], .slice (Own.a own) acc.length (Own.c own)), (0, [], .pointer (some ⟨b, 0, none⟩)), (2, [], .func (.func 28) #[] #[])]) (Conv.mk (by kernel_rfl)) ?_
      refine Cfg.begL rfl ?_
      refine CfgL.pure 1 [] none (Γ' := [(17, [], .pointer (some ⟨b, 0, none⟩)), (8, [], .pointer (some ⟨xb, 0, none⟩)), (12, [], .int .i64 (i : Int)), (11, [], .int .i64 ((boundF z (16 : Int) 6).1 : Int)), (7, [], .slice (Own.a own) acc.length (Own.c own)), (0, [], .pointer (some ⟨b, 0, none⟩)), (2, [], .func (.func 28) #[] #[])]) (nd := (fun _ => [])) (by kernel_rfl) (fun _ => by kernel_rfl) trivial ?_
      refine CfgL.eff (o := _) rfl (by kernel_rfl) (by kernel_rfl) (Eff.callA (vs := [.pointer (some ⟨b, 0, none⟩)]) (.int .i64 (((takeR y).2).er)) rfl Try.func56 rfl rfl (by kernel_rfl) (fun w1 h => wErr b ((takeR y).2) w1 (h.own (b, _) (List.mem_of_getElem? (i := 1) rfl)))) ?_
      rintro ⟨⟩ -
      refine CfgL.pure 1 [] (some [0, 2, 7, 8, 11, 12, 19]) (Γ' := [(19, [], .bool ((((takeR y).2).er) != (0 : Int))), (8, [], .pointer (some ⟨xb, 0, none⟩)), (12, [], .int .i64 (i : Int)), (11, [], .int .i64 ((boundF z (16 : Int) 6).1 : Int)), (7, [], .slice (Own.a own) acc.length (Own.c own)), (0, [], .pointer (some ⟨b, 0, none⟩)), (2, [], .func (.func 28) #[] #[])]) (nd := (fun _ => [])) (by kernel_rfl) (fun _ => by kernel_rfl) trivial ?_
      refine CfgL.done rfl ?_
      refine Cfg.cond rfl (b := ((((takeR y).2).er) != (0 : Int))) (by kernel_rfl) (fun c2r => ?_) (fun c2r => ?_)
      · have c2 : ((((takeR y).2).er) ≠ (0 : Int)) := (bne_iff_ne.1 c2r)
        refine Cfg.reg rfl [6] [] (Γ' := [(6, [], .slice none 0 0)]) (nd := (fun _ => [])) (fun _ => by kernel_rfl) trivial ?_
        refine Cfg.ret rfl (rs := [.tmp 6]) rfl [.slice none 0 0] ⟨by kernel_rfl, trivial⟩ (fun w1 hp => ?_)
        have hx : rowsT takeR z 16 = ([], (takeR y).2) := hra.fail (by omega) c2
        rw [hx]
        exact ⟨none, OwnOk.none _, rfl, hp.ext, hp.own (b, _) (List.mem_append_left _ (List.mem_of_getElem? (i := 1) rfl)), (fun _ h => by cases h), (fun _ h => by cases h)⟩
      · have c2 : ((((takeR y).2).er) = (0 : Int)) := (bne_eq_false_iff_eq.1 c2r)
        refine Cfg.begL rfl ?_
        refine CfgL.pure 2 [(0, false, none), (0, false, some (.agg (rc (takeR y).1).toArray))] none (Γ' := [(21, [], .agg (rc (takeR y).1).toArray), (20, [], .slice (Own.a own) acc.length (Own.c own)), (19, [], .bool ((((takeR y).2).er) != (0 : Int))), (8, [], .pointer (some ⟨xb, 0, none⟩)), (12, [], .int .i64 (i : Int)), (11, [], .int .i64 ((boundF z (16 : Int) 6).1 : Int)), (7, [], .slice (Own.a own) acc.length (Own.c own)), (0, [], .pointer (some ⟨b, 0, none⟩)), (2, [], .func (.func 28) #[] #[])]) (nd := (fun S => [(∀ w1, S w1 → (loadVar 50 ⟨xb, 0, none⟩).run Try.prog w1 = .ok (.agg (rc (takeR y).1).toArray) w1)])) (by kernel_rfl) (fun _ => by kernel_rfl) ⟨(fun w1 h => h.oload 0 rfl Try.underlying50 rfl (n := 33) (by kernel_rfl) (by rw [List.size_toArray, rc_len (dig32_len _)])), trivial⟩ ?_
        refine CfgL.eff (o := _) rfl (by kernel_rfl) (by kernel_rfl) (Eff.buildAgg (vs := (rc (takeR y).1).toArray) (n := 33) rfl (by kernel_rfl) Try.underlying22 (by kernel_rfl) (z := (.agg (rc rz).toArray)) (by kernel_rfl) (by rw [List.size_toArray]; exact rc_len (dig32_len _)) (by decide) (by decide)) ?_
        rintro bk2 ⟨hbk2, nbk2⟩
        refine CfgL.eff (o := _) rfl (by kernel_rfl) (by kernel_rfl) (Eff.appendF rfl 33 48 Try.underlying22 (by kernel_rfl) (z := (.agg (rc rz).toArray)) (by kernel_rfl) (by kernel_rfl) own (xs := (rv acc)) hok (by kernel_rfl) (b2 := bk2) (off2 := 0) (m := 1) (c2 := 1) (by kernel_rfl) (rc (takeR y).1) (rc_len (dig32_len _)) (rc_all _) [(bk2, .cells ((rc (takeR y).1).toArray) 50 (0, 0)), (xb, .cells ((rc (takeR y).1).toArray) 50 (0, 0)), (b, .cells (inC ((takeR y).2)) 98 (0, 0))] [] (by rfl) (fun w1 h j v hj => rc_src h 0 rfl hj) (by omega) (by omega)) ?_
        rintro o4 ko4
        refine CfgL.pure 1 [] (some [0, 2, 7, 11, 12]) (Γ' := [(7, [], .slice (Own.a o4) ((acc.length + 1)) (Own.c o4)), (12, [], .int .i64 (i : Int)), (11, [], .int .i64 ((boundF z (16 : Int) 6).1 : Int)), (0, [], .pointer (some ⟨b, 0, none⟩)), (2, [], .func (.func 28) #[] #[])]) (nd := (fun _ => [])) (by kernel_rfl) (fun _ => by kernel_rfl) trivial ?_
        refine CfgL.done rfl ?_
        refine Cfg.reg rfl [0, 2, 7, 11, 12] [] (Γ' := [(12, [], .int .i64 ((i : Int) + 1)), (7, [], .slice (Own.a o4) ((acc.length + 1)) (Own.c o4)), (11, [], .int .i64 ((boundF z (16 : Int) 6).1 : Int)), (0, [], .pointer (some ⟨b, 0, none⟩)), (2, [], .func (.func 28) #[] #[])]) (nd := (fun _ => [((-9223372036854775808 : Int) ≤ ((i : Int) + 1) ∧ ((i : Int) + 1) ≤ 9223372036854775807)])) (fun _ => by kernel_rfl) ⟨(by omega), trivial⟩ ?_
        have hra2 := hra.next (by omega) c2
        have hrv : rv (acc ++ [(takeR y).1]) = rv acc ++ rc (takeR y).1 := by rw [rv_app, rv_one]
        refine Cfg.setO (O' := ([(bk2, .cells ((rc (takeR y).1).toArray) 50 (0, 0)), (xb, .cells ((rc (takeR y).1).toArray) 50 (0, 0)), (b, .cells (inC ((takeR y).2)) 98 (0, 0))] ++ (Own.o 50 (rv (acc ++ [(takeR y).1])) o4 ++ []))) (congrArg (fun (xq : List Value) => (([(bk2, .cells ((rc (takeR y).1).toArray) 50 (0, 0)), (xb, .cells ((rc (takeR y).1).toArray) 50 (0, 0)), (b, .cells (inC ((takeR y).2)) 98 (0, 0))] ++ (Own.o 50 xq o4 ++ [])) : List (Nat × Obj))) (by rw [hrv])) ?_
        refine Cfg.setG (Γ' := [(12, [], .int .i64 ((i : Int) + 1)), (7, [], .slice (Own.a o4) ((acc ++ [(takeR y).1]).length) (Own.c o4)), (11, [], .int .i64 ((boundF z (16 : Int) 6).1 : Int)), (0, [], .pointer (some ⟨b, 0, none⟩)), (2, [], .func (.func 28) #[] #[])]) (congrArg (fun (xq : Nat) => ([(12, [], .int .i64 ((i : Int) + 1)), (7, [], .slice (Own.a o4) xq (Own.c o4)), (11, [], .int .i64 ((boundF z (16 : Int) 6).1 : Int)), (0, [], .pointer (some ⟨b, 0, none⟩)), (2, [], .func (.func 28) #[] #[])] : Env)) (by rw [List.length_append]; rfl)) ?_
        refine Cfg.again rfl (i + 1, (takeR y).2, acc ++ [(takeR y).1], o4) ⟨hra2, by rw [hrv, List.length_append]; exact ko4⟩ (by show (boundF z 16 6).1 - (i + 1) < (boundF z 16 6).1 - i; omega) (Conv.mk (by kernel_rfl)) (.cons _ (.cons _ (.cons_cons _ (List.Sublist.refl _))))
    · have c1 : (¬ ((i : Int) < ((boundF z (16 : Int) 6).1 : Int))) := (of_decide_eq_false c1r)
      refine Cfg.reg rfl [6] [] (Γ' := [(6, [], .slice (Own.a own) acc.length (Own.c own))]) (nd := (fun _ => [])) (fun _ => by kernel_rfl) trivial ?_
      refine Cfg.ret rfl (rs := [.tmp 6]) rfl [.slice (Own.a own) acc.length (Own.c own)] ⟨by kernel_rfl, trivial⟩ (fun w1 hp => ?_)
      have hi2 : i = (boundF z 16 6).1 := by omega
      have hx : rowsT takeR z 16 = (acc, y) := (hi2 ▸ hra).done
      rw [hx]
      refine ⟨own, hok, rfl, hp.ext, hp.own (b, _) (List.mem_append_left _ (List.mem_of_getElem? (i := 0) rfl)), fun x hx => hp.own x (List.mem_append_right _ (List.mem_append_left _ hx)), fun x hx => ?_⟩
      rcases hp.mine x (List.mem_append_right _ (List.mem_append_left _ hx)) with h1 | h1
      · exact h1
      · exfalso
        obtain rfl := List.mem_singleton.1 h1
        have hd := hp.dist
        rw [List.map_append] at hd
        exact (List.nodup_append.1 hd).2.2 _ (List.mem_map.2 ⟨_, List.mem_of_getElem? (i := 0) rfl, rfl⟩) _ (List.mem_map.2 ⟨x, List.mem_append_left _ hx, rfl⟩) rfl

end Go.Proofs.Ytejgpniaoccpoaa
