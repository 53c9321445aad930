/- refs: a state's bytes. -/
import Derived.Test.YtejgpniaoccpoaaRfT
namespace Go.Proofs.Ytejgpniaoccpoaa
open K
set_option linter.unusedVariables false

/-- What a state's bytes are; and why there are none. -/
def bytS (s : RSt) : ByteArray := if checkF s = 0 then tx (bytesF s) else ByteArray.empty
theorem rowR_le {l : List Rf} (hW : W32 l) (hc : l.length ≤ 16 ∧ ∀ x ∈ l, refB x.1 = true) : (rowR l).length ≤ 1000 := by
  have h1 := flat_le l hW (fun x hx => refB_len (hc.2 x hx)) l.length
  rw [List.take_length] at h1
  unfold rowR
  rw [List.length_append, show (four l.length).length = 4 from be_len _ _]
  omega
theorem eqR_refl2 (l : List Rf) : eqR l l = true := eqR_yes rfl (fun j hj => by unfold rfEq; simp)

set_option maxRecDepth 100000 in
theorem rBytes (hd : ByteArray) (la ta : Option Addr) (cap ca : Nat) (l m : List Rf) (nx : Int) (Rl : List (Nat × Obj)) (w : World) (hI : InR Rl la l) (hJ : InR Rl ta m) (hW : W32 l) (hV : W32 m) (hR : Has w Rl) (hn : l.length ≤ maxLen) (hm : m.length ≤ maxLen) (hz : ∀ x ∈ l, x.1.size ≤ maxLen) (hz2 : ∀ x ∈ m, x.1.size ≤ maxLen) (hh : hd.size ≤ maxLen) (hnx : 0 ≤ nx ∧ nx < 18446744073709551616) :
    Calls Try.prog 6 #[.agg #[.string hd, .slice la l.length cap, .slice ta m.length ca, .int .u64 nx]] w fun e w' => e = .returned (.tuple #[.string (bytS ⟨hd, l, m, nx⟩), .int .i64 (checkF ⟨hd, l, m, nx⟩)]) ∧ Ext [] w w' := by
  have hts := tx_size
  refine enter (vs := [.agg #[.string hd, .slice la l.length cap, .slice ta m.length ca, .int .u64 nx]]) [] Rl [] Try.func6 rfl (by kernel_rfl) (HP.ofHas hR) ?_
  refine Cfg.begL rfl ?_
  refine CfgL.eff (o := _) rfl (by kernel_rfl) (by kernel_rfl) (Eff.box (v := .agg #[.string hd, .slice la l.length cap, .slice ta m.length ca, .int .u64 nx]) rfl (by kernel_rfl)) ?_
  rintro st ⟨hst, nst⟩
  refine CfgL.pure 2 [] (some [1]) (Γ' := [(1, [], .pointer (some ⟨st, 0, none⟩))]) (nd := (fun _ => [])) (by kernel_rfl) (fun _ => by kernel_rfl) trivial ?_
  refine CfgL.done rfl ?_
  refine Cfg.begL rfl ?_
  refine CfgL.pure 1 [(0, false, some (.agg #[.string hd, .slice la l.length cap, .slice ta m.length ca, .int .u64 nx]))] none (Γ' := [(6, [], .agg #[.string hd, .slice la l.length cap, .slice ta m.length ca, .int .u64 nx]), (1, [], .pointer (some ⟨st, 0, none⟩))]) (nd := (fun S => [(∀ w1, S w1 → (loadVar 25 ⟨st, 0, none⟩).run Try.prog w1 = .ok (.agg #[.string hd, .slice la l.length cap, .slice ta m.length ca, .int .u64 nx]) w1)])) (by kernel_rfl) (fun _ => by kernel_rfl) ⟨(fun w1 h => h.oload 0 rfl Try.underlying25 rfl (n := 4) (by kernel_rfl) rfl), trivial⟩ ?_
  refine CfgL.eff (o := _) rfl (by kernel_rfl) (by kernel_rfl) (Eff.callA (vs := [.agg #[.string hd, .slice la l.length cap, .slice ta m.length ca, .int .u64 nx]]) (.int .i64 (checkF ⟨hd, l, m, nx⟩)) rfl Try.func10 rfl rfl (by kernel_rfl) (fun w1 h => rCheckS hd la ta cap ca l m nx Rl w1 hI hJ hW hV (h.hasR (fun e he => he)) hn hm hz hz2 hh)) ?_
  rintro ⟨⟩ -
  refine CfgL.pure 1 [] (some [1, 4]) (Γ' := [(4, [], .int .i64 (checkF ⟨hd, l, m, nx⟩)), (1, [], .pointer (some ⟨st, 0, none⟩))]) (nd := (fun _ => [])) (by kernel_rfl) (fun _ => by kernel_rfl) trivial ?_
  refine CfgL.done rfl ?_
  refine Cfg.reg rfl [1, 4, 9] [] (Γ' := [(9, [], .bool ((checkF ⟨hd, l, m, nx⟩) != (0 : Int))), (4, [], .int .i64 (checkF ⟨hd, l, m, nx⟩)), (1, [], .pointer (some ⟨st, 0, none⟩))]) (nd := (fun _ => [])) (fun _ => by kernel_rfl) trivial ?_
  refine Cfg.cond rfl (b := ((checkF ⟨hd, l, m, nx⟩) != (0 : Int))) (by kernel_rfl) (fun c1r => ?_) (fun c1r => ?_)
  · have c1 : ((checkF ⟨hd, l, m, nx⟩) ≠ (0 : Int)) := (bne_iff_ne.1 c1r)
    refine Cfg.reg rfl [2, 3] [] (Γ' := [(3, [], .int .i64 (checkF ⟨hd, l, m, nx⟩)), (2, [], .string ⟨#[]⟩)]) (nd := (fun _ => [])) (fun _ => by kernel_rfl) trivial ?_
    refine Cfg.ret rfl (rs := [.tmp 2, .tmp 3]) rfl [.string ⟨#[]⟩, .int .i64 (checkF ⟨hd, l, m, nx⟩)] ⟨by kernel_rfl, by kernel_rfl, trivial⟩ (fun w1 hp => ?_)
    exact ⟨by rw [show bytS ⟨hd, l, m, nx⟩ = ByteArray.empty from if_neg c1]; rfl, hp.ext⟩
  · have c1 : ((checkF ⟨hd, l, m, nx⟩) = (0 : Int)) := (bne_eq_false_iff_eq.1 c1r)
    obtain ⟨c1a, c1b, c1c⟩ : refB hd = true ∧ chkF l [] = 0 ∧ chkF m l = 0 := checkF_ok c1
    obtain ⟨d1, d2⟩ := chkF_ok c1b
    obtain ⟨e1, e2⟩ := chkF_ok c1c
    have hr1 := rowR_le hW ⟨d1, d2⟩
    have hr2 := rowR_le hV ⟨e1, e2⟩
    have hhl := refB_len c1a
    refine Cfg.begL rfl ?_
    refine CfgL.pure 3 [(0, false, some (.agg #[.string ByteArray.empty])), (0, false, none), (0, false, some (.string hd))] none (Γ' := [(13, [], .string hd), (12, [], .pointer (some ⟨st, 0, none⟩)), (11, [], .agg #[.string ByteArray.empty]), (9, [], .bool ((checkF ⟨hd, l, m, nx⟩) != (0 : Int))), (4, [], .int .i64 (checkF ⟨hd, l, m, nx⟩)), (1, [], .pointer (some ⟨st, 0, none⟩))]) (nd := (fun S => [(∀ w1, S w1 → (Instr.build 52 #[]).run Try.prog w1 = .ok (.agg #[.string ByteArray.empty]) w1), (∀ w1, S w1 → w1.cell? ⟨st, 0, none⟩ = some (.string hd))])) (by kernel_rfl) (fun _ => by kernel_rfl) ⟨(fun _ _ => by kernel_rfl), (fun w1 h => h.ocell 0 rfl rfl), trivial⟩ ?_
    refine CfgL.eff (o := _) rfl (by kernel_rfl) (by kernel_rfl) (Eff.buildSlice (e := 9) (cells := #[.string hd]) (parts := #[(0, .string hd)]) rfl (by kernel_rfl) (fun _ => by kernel_rfl)) ?_
    rintro x2 ⟨hx2, nx2⟩
    refine CfgL.eff (o := _) rfl (by kernel_rfl) (by kernel_rfl) (Eff.callA (vs := [.agg #[.string ByteArray.empty], .slice (some ⟨x2, 0, none⟩) 1 1]) (.agg #[.string (tx (ByteArray.empty.data.toList ++ flat text4 [hd]))]) rfl Try.func16 rfl rfl (by kernel_rfl) (fun w1 h => wText ByteArray.empty (some ⟨x2, 0, none⟩) 1 [hd] [(x2, .cells #[.string hd] 9 (0, 0))] w1 (inS_text x2 9 (0, 0) hd) (h.has (fun e he => List.mem_of_getElem? (i := 0) (by rw [List.mem_singleton.1 he]; rfl))) (one_len _) (by rw [flat_one, text4_len, show ByteArray.empty.size = 0 from rfl]; omega))) ?_
    rintro ⟨⟩ -
    refine CfgL.eff (o := _) rfl (by kernel_rfl) (by kernel_rfl) (Eff.alloc (z := (.agg #[.string ByteArray.empty])) rfl (by kernel_rfl)) ?_
    rintro ob ⟨hob, nob⟩
    refine CfgL.eff (o := _) rfl (by kernel_rfl) (by kernel_rfl) (Eff.storeN (b := ob) (off := 0) (vs := #[.string (tx (ByteArray.empty.data.toList ++ flat text4 [hd]))]) (n := 1) rfl (by kernel_rfl) (by kernel_rfl) (by kernel_rfl) rfl (by simp [K.one]) 0 (cs := #[.string ByteArray.empty]) (e := 52) (by kernel_rfl) (by simp)) ?_
    rintro ⟨⟩ -
    refine CfgL.setO (O' := [(ob, .cells #[.string (tx (ByteArray.empty.data.toList ++ flat text4 [hd]))] 52 (0, 0)), (x2, .cells #[.string hd] 9 (0, 0)), (st, .cells #[.string hd, .slice la l.length cap, .slice ta m.length ca, .int .u64 nx] 25 (0, 0))]) (congrArg (fun (xq : Array Value) => ([(ob, .cells xq 52 (0, 0)), (x2, .cells #[.string hd] 9 (0, 0)), (st, .cells #[.string hd, .slice la l.length cap, .slice ta m.length ca, .int .u64 nx] 25 (0, 0))] : List (Nat × Obj))) (rfl)) ?_
    refine CfgL.done rfl ?_
    refine Conv.cfg (Γ' := [(5, [], .pointer (some ⟨ob, 0, none⟩)), (1, [], .pointer (some ⟨st, 0, none⟩))]) (Conv.mk (by kernel_rfl)) ?_
    refine Cfg.begL rfl ?_
    refine CfgL.pure 3 [(0, false, some (.agg #[.string (tx (ByteArray.empty.data.toList ++ flat text4 [hd]))])), (0, false, none), (0, false, some (.slice la l.length cap))] none (Γ' := [(18, [], .slice la l.length cap), (17, [], .pointer (some ⟨st, 1, none⟩)), (16, [], .agg #[.string (tx (ByteArray.empty.data.toList ++ flat text4 [hd]))]), (5, [], .pointer (some ⟨ob, 0, none⟩)), (1, [], .pointer (some ⟨st, 0, none⟩))]) (nd := (fun S => [(∀ w1, S w1 → (loadVar 52 ⟨ob, 0, none⟩).run Try.prog w1 = .ok (.agg #[.string (tx (ByteArray.empty.data.toList ++ flat text4 [hd]))]) w1), (∀ w1, S w1 → w1.cell? ⟨st, 1, none⟩ = some (.slice la l.length cap))])) (by kernel_rfl) (fun _ => by kernel_rfl) ⟨(fun w1 h => h.oload 0 rfl Try.underlying52 rfl (n := 1) (by kernel_rfl) rfl), (fun w1 h => h.ocell 2 rfl rfl), trivial⟩ ?_
    refine CfgL.eff (o := _) rfl (by kernel_rfl) (by kernel_rfl) (Eff.callA (vs := [.agg #[.string (tx (ByteArray.empty.data.toList ++ flat text4 [hd]))], .slice la l.length cap, .func (.func 18) #[] #[]]) (.agg #[.string (tx ((ByteArray.empty.data.toList ++ flat text4 [hd]) ++ rowR l))]) rfl Try.func17 rfl rfl (by kernel_rfl) (fun w1 h => wRowR (tx (ByteArray.empty.data.toList ++ flat text4 [hd])) la cap l Rl w1 hI hW (h.hasR (fun e he => he)) hn (by omega) (by rw [tx_size]; simp only [List.length_append, flat_one, text4_len, ba_len, show ByteArray.empty.size = 0 from rfl]; omega))) ?_
    rintro ⟨⟩ -
    refine CfgL.eff (o := _) rfl (by kernel_rfl) (by kernel_rfl) (Eff.storeN (b := ob) (off := 0) (vs := #[.string (tx ((ByteArray.empty.data.toList ++ flat text4 [hd]) ++ rowR l))]) (n := 1) rfl (by kernel_rfl) (by kernel_rfl) (by kernel_rfl) rfl (by simp [K.one]) 0 (cs := #[.string (tx (ByteArray.empty.data.toList ++ flat text4 [hd]))]) (e := 52) (by kernel_rfl) (by simp)) ?_
    rintro ⟨⟩ -
    refine CfgL.setO (O' := [(ob, .cells #[.string (tx ((ByteArray.empty.data.toList ++ flat text4 [hd]) ++ rowR l))] 52 (0, 0)), (x2, .cells #[.string hd] 9 (0, 0)), (st, .cells #[.string hd, .slice la l.length cap, .slice ta m.length ca, .int .u64 nx] 25 (0, 0))]) (congrArg (fun (xq : Array Value) => ([(ob, .cells xq 52 (0, 0)), (x2, .cells #[.string hd] 9 (0, 0)), (st, .cells #[.string hd, .slice la l.length cap, .slice ta m.length ca, .int .u64 nx] 25 (0, 0))] : List (Nat × Obj))) (rfl)) ?_
    refine CfgL.done rfl ?_
    refine Conv.cfg (Γ' := [(5, [], .pointer (some ⟨ob, 0, none⟩)), (1, [], .pointer (some ⟨st, 0, none⟩))]) (Conv.mk (by kernel_rfl)) ?_
    refine Cfg.begL rfl ?_
    refine CfgL.pure 3 [(0, false, some (.agg #[.string (tx ((ByteArray.empty.data.toList ++ flat text4 [hd]) ++ rowR l))])), (0, false, none), (0, false, some (.slice ta m.length ca))] none (Γ' := [(22, [], .slice ta m.length ca), (21, [], .pointer (some ⟨st, 2, none⟩)), (20, [], .agg #[.string (tx ((ByteArray.empty.data.toList ++ flat text4 [hd]) ++ rowR l))]), (5, [], .pointer (some ⟨ob, 0, none⟩)), (1, [], .pointer (some ⟨st, 0, none⟩))]) (nd := (fun S => [(∀ w1, S w1 → (loadVar 52 ⟨ob, 0, none⟩).run Try.prog w1 = .ok (.agg #[.string (tx ((ByteArray.empty.data.toList ++ flat text4 [hd]) ++ rowR l))]) w1), (∀ w1, S w1 → w1.cell? ⟨st, 2, none⟩ = some (.slice ta m.length ca))])) (by kernel_rfl) (fun _ => by kernel_rfl) ⟨(fun w1 h => h.oload 0 rfl Try.underlying52 rfl (n := 1) (by kernel_rfl) rfl), (fun w1 h => h.ocell 2 rfl rfl), trivial⟩ ?_
    refine CfgL.eff (o := _) rfl (by kernel_rfl) (by kernel_rfl) (Eff.callA (vs := [.agg #[.string (tx ((ByteArray.empty.data.toList ++ flat text4 [hd]) ++ rowR l))], .slice ta m.length ca, .func (.func 18) #[] #[]]) (.agg #[.string (tx (((ByteArray.empty.data.toList ++ flat text4 [hd]) ++ rowR l) ++ rowR m))]) rfl Try.func17 rfl rfl (by kernel_rfl) (fun w1 h => wRowR (tx ((ByteArray.empty.data.toList ++ flat text4 [hd]) ++ rowR l)) ta ca m Rl w1 hJ hV (h.hasR (fun e he => he)) hm (by omega) (by rw [tx_size]; simp only [List.length_append, flat_one, text4_len, ba_len, show ByteArray.empty.size = 0 from rfl]; omega))) ?_
    rintro ⟨⟩ -
    refine CfgL.eff (o := _) rfl (by kernel_rfl) (by kernel_rfl) (Eff.storeN (b := ob) (off := 0) (vs := #[.string (tx (((ByteArray.empty.data.toList ++ flat text4 [hd]) ++ rowR l) ++ rowR m))]) (n := 1) rfl (by kernel_rfl) (by kernel_rfl) (by kernel_rfl) rfl (by simp [K.one]) 0 (cs := #[.string (tx ((ByteArray.empty.data.toList ++ flat text4 [hd]) ++ rowR l))]) (e := 52) (by kernel_rfl) (by simp)) ?_
    rintro ⟨⟩ -
    refine CfgL.setO (O' := [(ob, .cells #[.string (tx (((ByteArray.empty.data.toList ++ flat text4 [hd]) ++ rowR l) ++ rowR m))] 52 (0, 0)), (x2, .cells #[.string hd] 9 (0, 0)), (st, .cells #[.string hd, .slice la l.length cap, .slice ta m.length ca, .int .u64 nx] 25 (0, 0))]) (congrArg (fun (xq : Array Value) => ([(ob, .cells xq 52 (0, 0)), (x2, .cells #[.string hd] 9 (0, 0)), (st, .cells #[.string hd, .slice la l.length cap, .slice ta m.length ca, .int .u64 nx] 25 (0, 0))] : List (Nat × Obj))) (rfl)) ?_
    refine CfgL.done rfl ?_
    refine Conv.cfg (Γ' := [(5, [], .pointer (some ⟨ob, 0, none⟩)), (1, [], .pointer (some ⟨st, 0, none⟩))]) (Conv.mk (by kernel_rfl)) ?_
    refine Cfg.begL rfl ?_
    refine CfgL.pure 3 [(0, false, some (.agg #[.string (tx (((ByteArray.empty.data.toList ++ flat text4 [hd]) ++ rowR l) ++ rowR m))])), (0, false, none), (0, false, some (.int .u64 nx))] none (Γ' := [(26, [], .int .u64 nx), (25, [], .pointer (some ⟨st, 3, none⟩)), (24, [], .agg #[.string (tx (((ByteArray.empty.data.toList ++ flat text4 [hd]) ++ rowR l) ++ rowR m))]), (5, [], .pointer (some ⟨ob, 0, none⟩)), (1, [], .pointer (some ⟨st, 0, none⟩))]) (nd := (fun S => [(∀ w1, S w1 → (loadVar 52 ⟨ob, 0, none⟩).run Try.prog w1 = .ok (.agg #[.string (tx (((ByteArray.empty.data.toList ++ flat text4 [hd]) ++ rowR l) ++ rowR m))]) w1), (∀ w1, S w1 → w1.cell? ⟨st, 3, none⟩ = some (.int .u64 nx))])) (by kernel_rfl) (fun _ => by kernel_rfl) ⟨(fun w1 h => h.oload 0 rfl Try.underlying52 rfl (n := 1) (by kernel_rfl) rfl), (fun w1 h => h.ocell 2 rfl rfl), trivial⟩ ?_
    refine CfgL.eff (o := _) rfl (by kernel_rfl) (by kernel_rfl) (Eff.buildSlice (e := 23) (cells := #[.int .u64 nx]) (parts := #[(0, .int .u64 nx)]) rfl (by kernel_rfl) (fun _ => by kernel_rfl)) ?_
    rintro x4 ⟨hx4, nx4⟩
    refine CfgL.eff (o := _) rfl (by kernel_rfl) (by kernel_rfl) (Eff.callA (vs := [.agg #[.string (tx (((ByteArray.empty.data.toList ++ flat text4 [hd]) ++ rowR l) ++ rowR m))], .slice (some ⟨x4, 0, none⟩) 1 1]) (.agg #[.string (tx ((((ByteArray.empty.data.toList ++ flat text4 [hd]) ++ rowR l) ++ rowR m) ++ flat eight [nx.toNat]))]) rfl Try.func19 rfl rfl (by kernel_rfl) (fun w1 h => wEight (tx (((ByteArray.empty.data.toList ++ flat text4 [hd]) ++ rowR l) ++ rowR m)) (some ⟨x4, 0, none⟩) 1 [nx.toNat] [(x4, .cells #[.int .u64 (nx.toNat : Int)] 23 (0, 0))] w1 (inS_num x4 23 (0, 0) .u64 nx.toNat) (by have hq := h.own (x4, .cells #[.int .u64 nx] 23 (0, 0)) (List.mem_of_getElem? (i := 0) rfl); intro e he; rw [List.mem_singleton.1 he, Int.toNat_of_nonneg hnx.1]; exact hq) (by simp [maxLen]) (by have h8 : (eight nx.toNat).length = 8 := be_len _ _; simp only [tx_size, flat_one, List.length_append, text4_len, ba_len, h8, show ByteArray.empty.size = 0 from rfl]; omega) (one_get (by omega) (by decide)))) ?_
    rintro ⟨⟩ -
    refine CfgL.eff (o := _) rfl (by kernel_rfl) (by kernel_rfl) (Eff.callA (vs := [.agg #[.string (tx ((((ByteArray.empty.data.toList ++ flat text4 [hd]) ++ rowR l) ++ rowR m) ++ flat eight [nx.toNat]))]]) (.string (tx ((((ByteArray.empty.data.toList ++ flat text4 [hd]) ++ rowR l) ++ rowR m) ++ flat eight [nx.toNat]))) rfl Try.func20 rfl rfl (by kernel_rfl) (fun w1 _ => wString (tx ((((ByteArray.empty.data.toList ++ flat text4 [hd]) ++ rowR l) ++ rowR m) ++ flat eight [nx.toNat])) w1)) ?_
    rintro ⟨⟩ -
    refine CfgL.pure 2 [] (some [2, 3]) (Γ' := [(3, [], .int .i64 0), (2, [], .string (tx ((((ByteArray.empty.data.toList ++ flat text4 [hd]) ++ rowR l) ++ rowR m) ++ flat eight [nx.toNat])))]) (nd := (fun _ => [])) (by kernel_rfl) (fun _ => by kernel_rfl) trivial ?_
    refine CfgL.done rfl ?_
    refine Cfg.ret rfl (rs := [.tmp 2, .tmp 3]) rfl [.string (tx ((((ByteArray.empty.data.toList ++ flat text4 [hd]) ++ rowR l) ++ rowR m) ++ flat eight [nx.toNat])), .int .i64 0] ⟨by kernel_rfl, by kernel_rfl, trivial⟩ (fun w1 hp => ?_)
    have hb : bytS ⟨hd, l, m, nx⟩ = tx (bytesF ⟨hd, l, m, nx⟩) := if_pos c1
    exact ⟨by rw [hb, c1, flat_one, flat_one, List.append_assoc, List.append_assoc, List.append_assoc]; rfl, hp.ext⟩

set_option maxRecDepth 100000 in
theorem refBytes (hd : ByteArray) (la ta : Option Addr) (cap ca : Nat) (l m : List Rf) (nx : Int) (Rl : List (Nat × Obj)) (w : World) (hI : InR Rl la l) (hJ : InR Rl ta m) (hW : W32 l) (hV : W32 m) (hR : Has w Rl) (hn : l.length ≤ maxLen) (hm : m.length ≤ maxLen) (hz : ∀ x ∈ l, x.1.size ≤ maxLen) (hz2 : ∀ x ∈ m, x.1.size ≤ maxLen) (hh : hd.size ≤ maxLen) (hnx : 0 ≤ nx ∧ nx < 18446744073709551616) :
    Calls Try.prog 7 #[.agg #[.string hd, .slice la l.length cap, .slice ta m.length ca, .int .u64 nx]] w fun e w' => e = .returned (.tuple #[.string (bytS ⟨hd, l, m, nx⟩), .int .i64 (checkF ⟨hd, l, m, nx⟩)]) ∧ Ext [] w w' := by
  have hts := tx_size
  refine enter (vs := [.agg #[.string hd, .slice la l.length cap, .slice ta m.length ca, .int .u64 nx]]) [] Rl [] Try.func7 rfl (by kernel_rfl) (HP.ofHas hR) ?_
  refine Cfg.begL rfl ?_
  refine CfgL.eff (o := _) rfl (by kernel_rfl) (by kernel_rfl) (Eff.box (v := .agg #[.string hd, .slice la l.length cap, .slice ta m.length ca, .int .u64 nx]) rfl (by kernel_rfl)) ?_
  rintro st ⟨hst, nst⟩
  refine CfgL.pure 2 [] (some [1]) (Γ' := [(1, [], .pointer (some ⟨st, 0, none⟩))]) (nd := (fun _ => [])) (by kernel_rfl) (fun _ => by kernel_rfl) trivial ?_
  refine CfgL.done rfl ?_
  refine Cfg.begL rfl ?_
  refine CfgL.pure 1 [(0, false, some (.agg #[.string hd, .slice la l.length cap, .slice ta m.length ca, .int .u64 nx]))] none (Γ' := [(5, [], .agg #[.string hd, .slice la l.length cap, .slice ta m.length ca, .int .u64 nx]), (1, [], .pointer (some ⟨st, 0, none⟩))]) (nd := (fun S => [(∀ w1, S w1 → (loadVar 32 ⟨st, 0, none⟩).run Try.prog w1 = .ok (.agg #[.string hd, .slice la l.length cap, .slice ta m.length ca, .int .u64 nx]) w1)])) (by kernel_rfl) (fun _ => by kernel_rfl) ⟨(fun w1 h => h.oload 0 rfl Try.underlying32 rfl (n := 4) (by kernel_rfl) rfl), trivial⟩ ?_
  refine CfgL.eff (o := _) rfl (by kernel_rfl) (by kernel_rfl) (Eff.callA (vs := [.agg #[.string hd, .slice la l.length cap, .slice ta m.length ca, .int .u64 nx]]) (.int .i64 (checkF ⟨hd, l, m, nx⟩)) rfl Try.func21 rfl rfl (by kernel_rfl) (fun w1 h => refCheckS hd la ta cap ca l m nx Rl w1 hI hJ hW hV (h.hasR (fun e he => he)) hn hm hz hz2 hh)) ?_
  rintro ⟨⟩ -
  refine CfgL.pure 1 [] (some [1, 4]) (Γ' := [(4, [], .int .i64 (checkF ⟨hd, l, m, nx⟩)), (1, [], .pointer (some ⟨st, 0, none⟩))]) (nd := (fun _ => [])) (by kernel_rfl) (fun _ => by kernel_rfl) trivial ?_
  refine CfgL.done rfl ?_
  refine Cfg.reg rfl [1, 4, 8] [] (Γ' := [(8, [], .bool ((checkF ⟨hd, l, m, nx⟩) != (0 : Int))), (4, [], .int .i64 (checkF ⟨hd, l, m, nx⟩)), (1, [], .pointer (some ⟨st, 0, none⟩))]) (nd := (fun _ => [])) (fun _ => by kernel_rfl) trivial ?_
  refine Cfg.cond rfl (b := ((checkF ⟨hd, l, m, nx⟩) != (0 : Int))) (by kernel_rfl) (fun c1r => ?_) (fun c1r => ?_)
  · have c1 : ((checkF ⟨hd, l, m, nx⟩) ≠ (0 : Int)) := (bne_iff_ne.1 c1r)
    refine Cfg.reg rfl [2, 3] [] (Γ' := [(3, [], .int .i64 (checkF ⟨hd, l, m, nx⟩)), (2, [], .string ⟨#[]⟩)]) (nd := (fun _ => [])) (fun _ => by kernel_rfl) trivial ?_
    refine Cfg.ret rfl (rs := [.tmp 2, .tmp 3]) rfl [.string ⟨#[]⟩, .int .i64 (checkF ⟨hd, l, m, nx⟩)] ⟨by kernel_rfl, by kernel_rfl, trivial⟩ (fun w1 hp => ?_)
    exact ⟨by rw [show bytS ⟨hd, l, m, nx⟩ = ByteArray.empty from if_neg c1]; rfl, hp.ext⟩
  · have c1 : ((checkF ⟨hd, l, m, nx⟩) = (0 : Int)) := (bne_eq_false_iff_eq.1 c1r)
    obtain ⟨c1a, c1b, c1c⟩ : refB hd = true ∧ chkF l [] = 0 ∧ chkF m l = 0 := checkF_ok c1
    obtain ⟨d1, d2⟩ := chkF_ok c1b
    obtain ⟨e1, e2⟩ := chkF_ok c1c
    have hr1 := rowR_le hW ⟨d1, d2⟩
    have hr2 := rowR_le hV ⟨e1, e2⟩
    have hhl := refB_len c1a
    refine Cfg.begA rfl (by kernel_rfl) [(st, .cells #[.string hd, .slice la l.length cap, .slice ta m.length ca, .int .u64 nx] 32 (0, 0))] ?_
    refine CfgA.pure [0, 1, 3, 4, 7, 8, 11, 12] [(0, false, none), (0, false, some (.string hd)), (0, false, none), (0, false, some (.slice la l.length cap)), (0, false, none), (0, false, some (.slice ta m.length ca)), (0, false, none), (0, false, some (.int .u64 nx))] none (l' := #[true, true, false, true, true, false, false, true, true, false, false, true, true, false, false, false, false]) (by kernel_rfl) (by kernel_rfl) (.cons_cons _ .slnil) 9 rfl (Γ' := [(22, [], .int .u64 nx), (21, [], .pointer (some ⟨st, 3, none⟩)), (18, [], .slice ta m.length ca), (17, [], .pointer (some ⟨st, 2, none⟩)), (14, [], .slice la l.length cap), (13, [], .pointer (some ⟨st, 1, none⟩)), (11, [], .string hd), (10, [], .pointer (some ⟨st, 0, none⟩)), (8, [], .bool ((checkF ⟨hd, l, m, nx⟩) != (0 : Int))), (4, [], .int .i64 (checkF ⟨hd, l, m, nx⟩)), (1, [], .pointer (some ⟨st, 0, none⟩))]) (nd := (fun S => [(∀ w1, S w1 → w1.cell? ⟨st, 0, none⟩ = some (.string hd)), (∀ w1, S w1 → w1.cell? ⟨st, 1, none⟩ = some (.slice la l.length cap)), (∀ w1, S w1 → w1.cell? ⟨st, 2, none⟩ = some (.slice ta m.length ca)), (∀ w1, S w1 → w1.cell? ⟨st, 3, none⟩ = some (.int .u64 nx))])) (fun _ => by kernel_rfl) ⟨(fun w1 h => h.ocell 0 rfl rfl), (fun w1 h => h.ocell 0 rfl rfl), (fun w1 h => h.ocell 0 rfl rfl), (fun w1 h => h.ocell 0 rfl rfl), trivial⟩ ?_
    refine CfgA.eff 2 (o := _) rfl (by kernel_rfl) (fuel' := 8) rfl (by kernel_rfl) (by kernel_rfl) (Eff.callA (vs := [.string hd]) (.string (tx (text4 hd))) rfl Try.func22 rfl rfl (by kernel_rfl) (fun w1 _ => rText hd w1 (by omega))) (fun _ _ => (.cons_cons _ .slnil)) ?_
    rintro ⟨⟩ -
    refine CfgA.eff 5 (o := _) rfl (by kernel_rfl) (fuel' := 7) rfl (by kernel_rfl) (by kernel_rfl) (Eff.callA (vs := [.slice la l.length cap]) (.string (tx (rowR l))) rfl Try.func23 rfl rfl (by kernel_rfl) (fun w1 h => refRow la cap l Rl w1 hI hW (h.hasR (fun e he => he)) d1 (fun x hx => refB_len (d2 x hx)))) (fun _ _ => (.cons_cons _ .slnil)) ?_
    rintro ⟨⟩ -
    refine CfgA.pure [6] [] none (l' := #[true, true, true, true, true, true, true, true, true, false, false, true, true, false, false, false, false]) (by kernel_rfl) (by kernel_rfl) (.cons_cons _ .slnil) 6 rfl (Γ' := [(16, [], .string ((tx (text4 hd)) ++ (tx (rowR l)))), (15, [], .string (tx (rowR l))), (12, [], .string (tx (text4 hd))), (22, [], .int .u64 nx), (21, [], .pointer (some ⟨st, 3, none⟩)), (18, [], .slice ta m.length ca), (17, [], .pointer (some ⟨st, 2, none⟩)), (14, [], .slice la l.length cap), (13, [], .pointer (some ⟨st, 1, none⟩)), (11, [], .string hd), (10, [], .pointer (some ⟨st, 0, none⟩)), (8, [], .bool ((checkF ⟨hd, l, m, nx⟩) != (0 : Int))), (4, [], .int .i64 (checkF ⟨hd, l, m, nx⟩)), (1, [], .pointer (some ⟨st, 0, none⟩))]) (nd := (fun _ => [((tx (text4 hd)).size + (tx (rowR l)).size ≤ 9223372036854775807)])) (fun _ => by kernel_rfl) ⟨(by simp only [tx_size, text4_len]; omega), trivial⟩ ?_
    refine CfgA.eff 9 (o := _) rfl (by kernel_rfl) (fuel' := 5) rfl (by kernel_rfl) (by kernel_rfl) (Eff.callA (vs := [.slice ta m.length ca]) (.string (tx (rowR m))) rfl Try.func23 rfl rfl (by kernel_rfl) (fun w1 h => refRow ta ca m Rl w1 hJ hV (h.hasR (fun e he => he)) e1 (fun x hx => refB_len (e2 x hx)))) (fun _ _ => (.cons_cons _ .slnil)) ?_
    rintro ⟨⟩ -
    refine CfgA.pure [10] [] none (l' := #[true, true, true, true, true, true, true, true, true, true, true, true, true, false, false, false, false]) (by kernel_rfl) (by kernel_rfl) (.cons_cons _ .slnil) 4 rfl (Γ' := [(20, [], .string (((tx (text4 hd)) ++ (tx (rowR l))) ++ (tx (rowR m)))), (19, [], .string (tx (rowR m))), (16, [], .string ((tx (text4 hd)) ++ (tx (rowR l)))), (15, [], .string (tx (rowR l))), (12, [], .string (tx (text4 hd))), (22, [], .int .u64 nx), (21, [], .pointer (some ⟨st, 3, none⟩)), (18, [], .slice ta m.length ca), (17, [], .pointer (some ⟨st, 2, none⟩)), (14, [], .slice la l.length cap), (13, [], .pointer (some ⟨st, 1, none⟩)), (11, [], .string hd), (10, [], .pointer (some ⟨st, 0, none⟩)), (8, [], .bool ((checkF ⟨hd, l, m, nx⟩) != (0 : Int))), (4, [], .int .i64 (checkF ⟨hd, l, m, nx⟩)), (1, [], .pointer (some ⟨st, 0, none⟩))]) (nd := (fun _ => [(((tx (text4 hd)) ++ (tx (rowR l))).size + (tx (rowR m)).size ≤ 9223372036854775807)])) (fun _ => by kernel_rfl) ⟨(by simp only [ByteArray.size_append, tx_size, text4_len]; omega), trivial⟩ ?_
    refine CfgA.eff 13 (o := _) rfl (by kernel_rfl) (fuel' := 3) rfl (by kernel_rfl) (by kernel_rfl) (Eff.callA (vs := [.int .u64 nx, .int .i64 8]) (.string (beS nx.toNat 8)) rfl Try.func24 rfl rfl (by kernel_rfl) (fun w1 _ => by have h9 := rNum nx.toNat 8 w1 (by omega) (by decide); rw [Int.toNat_of_nonneg hnx.1] at h9; exact h9)) (fun _ _ => (.cons_cons _ .slnil)) ?_
    rintro ⟨⟩ -
    refine CfgA.pure [14, 15, 16] [] (some [2, 3]) (l' := #[true, true, true, true, true, true, true, true, true, true, true, true, true, true, true, true, true]) (by kernel_rfl) (by kernel_rfl) (.cons_cons _ .slnil) 0 rfl (Γ' := [(3, [], .int .i64 0), (2, [], .string ((((tx (text4 hd)) ++ (tx (rowR l))) ++ (tx (rowR m))) ++ (beS nx.toNat 8)))]) (nd := (fun _ => [((((tx (text4 hd)) ++ (tx (rowR l))) ++ (tx (rowR m))).size + (beS nx.toNat 8).size ≤ 9223372036854775807)])) (fun _ => by kernel_rfl) ⟨(by simp only [ByteArray.size_append, tx_size, text4_len, beS_size]; omega), trivial⟩ ?_
    refine CfgA.done (by kernel_rfl) ?_
    refine Cfg.ret rfl (rs := [.tmp 2, .tmp 3]) rfl [.string ((((tx (text4 hd)) ++ (tx (rowR l))) ++ (tx (rowR m))) ++ (beS nx.toNat 8)), .int .i64 0] ⟨by kernel_rfl, by kernel_rfl, trivial⟩ (fun w1 hp => ?_)
    have hb : bytS ⟨hd, l, m, nx⟩ = tx (bytesF ⟨hd, l, m, nx⟩) := if_pos c1
    exact ⟨by rw [hb, c1, show beS nx.toNat 8 = tx (eight nx.toNat) from rfl, tx_app, tx_app, tx_app, List.append_assoc, List.append_assoc]; rfl, hp.ext⟩

end Go.Proofs.Ytejgpniaoccpoaa
