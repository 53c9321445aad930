/- sha.Sum gives the digest of its parts. Condition: the rounds lie in their block. -/
import Derived.Test.YtphnkangpboplaaDoorShaW
import Derived.Test.YtphnkangpboplaaDoorSha5
namespace Go.Proofs.YtphnkangpboplaaDoor
open K
set_option linter.unusedVariables false

set_option maxRecDepth 100000 in
theorem shaBegin (w : World) :
    Calls Tryd.prog 15 #[] w fun e w' => ∃ b : Nat, True ∧ e = .returned (.pointer (some ⟨b, 0, none⟩)) ∧ w.heap.size ≤ b ∧ w'.heap[b]? = some (.cells (stC H8 (List.replicate 64 0) 0 0) 67 (0, 0)) ∧ Ext [] w w' := by
  refine enter (vs := []) [] [] [] Tryd.func15 rfl (by kernel_rfl) (HP.start w) ?_
  refine Cfg.reg rfl [] [] (Γ' := []) (nd := (fun _ => [])) (fun _ => by kernel_rfl) trivial ?_
  refine Cfg.begL rfl ?_
  refine CfgL.pure 2 [(0, false, some (.agg (wv H8))), (0, false, some (.agg (stC H8 (List.replicate 64 0) 0 0)))] none (Γ' := [(2, [], .agg (stC H8 (List.replicate 64 0) 0 0)), (1, [], .agg (wv H8))]) (nd := (fun S => [(∀ w1, S w1 → (Instr.build 65 #[(0, .int .u32 1779033703), (1, .int .u32 3144134277), (2, .int .u32 1013904242), (3, .int .u32 2773480762), (4, .int .u32 1359893119), (5, .int .u32 2600822924), (6, .int .u32 528734635), (7, .int .u32 1541459225)]).run Tryd.prog w1 = .ok (.agg (wv H8)) w1), (∀ w1, S w1 → (Instr.build 67 #[(0, .agg (wv H8))]).run Tryd.prog w1 = .ok (.agg (stC H8 (List.replicate 64 0) 0 0)) w1)])) (by kernel_rfl) (fun _ => by kernel_rfl) ⟨(fun _ _ => by kernel_rfl), (fun _ _ => by kernel_rfl), trivial⟩ ?_
  refine CfgL.eff (o := _) rfl (by kernel_rfl) (by kernel_rfl) (Eff.box (v := .agg (stC H8 (List.replicate 64 0) 0 0)) rfl (by kernel_rfl)) ?_
  rintro b1 ⟨hb1, nb1⟩
  refine CfgL.pure 1 [] (some [0]) (Γ' := [(0, [], .pointer (some ⟨b1, 0, none⟩))]) (nd := (fun _ => [])) (by kernel_rfl) (fun _ => by kernel_rfl) trivial ?_
  refine CfgL.done rfl ?_
  refine Cfg.ret rfl (rs := [.tmp 0]) rfl [.pointer (some ⟨b1, 0, none⟩)] ⟨by kernel_rfl, trivial⟩ (fun w1 hp => ?_)
  exact ⟨b1, trivial, rfl, hb1, hp.own (b1, _) (List.mem_cons_self ..), hp.ext⟩

set_option maxRecDepth 100000 in
theorem shaSum (la : Option Addr) (cap : Nat) (ss : List ByteArray) (Rl : List (Nat × Obj)) {kt : Array Value} {t0 : TypeId} {fr0 : Nat × Nat} (w : World) (hI : InS Rl la ss.length (fun j => .string (sat ss j))) (hn : ss.length ≤ maxLen) (hR : Has w ((0, .cells kt t0 fr0) :: Rl)) (hK : KT kt := by assumption) :
    Calls Tryd.prog 7 #[.slice la ss.length cap] w fun e w' => e = .returned (.agg (bv (shaD (cat ss)))) ∧ Ext [] w w' := by
  unfold maxLen at hn
  have h0 : 0 < w.heap.size := lt_of_get (hR _ (List.mem_cons_self ..))
  refine enter (vs := [.slice la ss.length cap]) [] ((0, .cells kt t0 fr0) :: Rl) [] Tryd.func7 rfl (by kernel_rfl) (HP.ofHas hR) ?_
  refine Cfg.begL rfl ?_
  refine CfgL.eff (o := _) rfl (by kernel_rfl) (by kernel_rfl) (Eff.alloc (z := (.agg (bv (List.replicate 32 0)))) rfl (by kernel_rfl)) ?_
  rintro r ⟨hr, nr⟩
  refine CfgL.done rfl ?_
  refine Cfg.begL rfl ?_
  refine CfgL.eff (o := _) rfl (by kernel_rfl) (by kernel_rfl) (Eff.callN (vs := []) (fun b : Nat => .pointer (some ⟨b, 0, none⟩)) (fun b => b) (fun _ => .cells (stC H8 (List.replicate 64 0) 0 0) 67 (0, 0)) (fun _ => True) rfl Tryd.func15 rfl rfl (by kernel_rfl) (fun w1 _ => shaBegin w1)) ?_
  rintro b ⟨-, hb, nb⟩
  have hne : b ≠ 0 := by have : w.heap.size ≤ b := hb; omega
  refine CfgL.pure 1 [] (some [0, 2, 3]) (Γ' := [(3, [], .pointer (some ⟨b, 0, none⟩)), (2, [], .pointer (some ⟨r, 0, none⟩)), (0, [], .slice la ss.length cap)]) (nd := (fun _ => [])) (by kernel_rfl) (fun _ => by kernel_rfl) trivial ?_
  refine CfgL.done rfl ?_
  refine Cfg.reg rfl [2, 3, 7, 8, 9] [] (Γ' := [(9, [], .int .i64 0), (8, [], .int .i64 (ss.length : Int)), (7, [], .slice la ss.length cap), (3, [], .pointer (some ⟨b, 0, none⟩)), (2, [], .pointer (some ⟨r, 0, none⟩))]) (nd := (fun _ => [])) (fun _ => by kernel_rfl) trivial ?_
  refine Cfg.loop rfl (ι := Nat) (fun (i : Nat) => [(9, [], .int .i64 (i : Int)), (8, [], .int .i64 (ss.length : Int)), (7, [], .slice la ss.length cap), (3, [], .pointer (some ⟨b, 0, none⟩)), (2, [], .pointer (some ⟨r, 0, none⟩))]) (fun (i : Nat) => [(b, .cells (stC (sz ss i).hs (sz ss i).bl (sz ss i).held (tt ss i)) 67 (0, 0)), (r, .cells (bv (List.replicate 32 0)) 25 (0, 0))]) (fun (i : Nat) => (i ≤ ss.length)) (fun (i : Nat) => ss.length - i) 0 ?_ (Conv.mk (by kernel_rfl)) (.cons_cons _ (.cons_cons _ .slnil)) ?_
  · exact Nat.zero_le _
  · rintro i hi
    refine Cfg.reg rfl [2, 3, 7, 8, 9, 10] [] (Γ' := [(10, [], .bool (decide ((i : Int) < (ss.length : Int)))), (9, [], .int .i64 (i : Int)), (8, [], .int .i64 (ss.length : Int)), (7, [], .slice la ss.length cap), (3, [], .pointer (some ⟨b, 0, none⟩)), (2, [], .pointer (some ⟨r, 0, none⟩))]) (nd := (fun _ => [])) (fun _ => by kernel_rfl) trivial ?_
    refine Cfg.cond rfl (b := (decide ((i : Int) < (ss.length : Int)))) (by kernel_rfl) (fun c1r => ?_) (fun c1r => ?_)
    · have c1 : ((i : Int) < (ss.length : Int)) := (of_decide_eq_true c1r)
      obtain ⟨sb, off, cs, te, fre, rfl, hmem, hcs⟩ := hI (by omega)
      refine Conv.cfg (Γ' := [(10, [], .bool (decide ((i : Int) < (ss.length : Int)))), (9, [], .int .i64 (i : Int)), (8, [], .int .i64 (ss.length : Int)), (7, [], .slice (some ⟨sb, off, none⟩) ss.length cap), (3, [], .pointer (some ⟨b, 0, none⟩)), (2, [], .pointer (some ⟨r, 0, none⟩))]) (Conv.mk (by kernel_rfl)) ?_
      refine Cfg.reg rfl [2, 3, 5, 7, 8, 9] [(0, false, none), (0, false, some (.string (sat ss i)))] (Γ' := [(5, [], .string (sat ss i)), (9, [], .int .i64 (i : Int)), (8, [], .int .i64 (ss.length : Int)), (7, [], .slice (some ⟨sb, off, none⟩) ss.length cap), (3, [], .pointer (some ⟨b, 0, none⟩)), (2, [], .pointer (some ⟨r, 0, none⟩))]) (nd := (fun S => [(0 ≤ (i : Int) ∧ (i : Int) < (ss.length : Int)), (∀ w1, S w1 → w1.cell? ⟨sb, (addO off i), none⟩ = some (.string (sat ss i)))])) (fun _ => by kernel_rfl) ⟨(by omega), (fun w1 h => by rw [addO_eq]; exact (cell_cells (h.ro _ (List.mem_cons_of_mem _ hmem))).trans (hcs i (by omega))), trivial⟩ ?_
      refine Cfg.begL rfl ?_
      refine CfgL.pure 2 [] none (Γ' := [(14, [], .string (sat ss i)), (13, [], .pointer (some ⟨b, 0, none⟩)), (5, [], .string (sat ss i)), (9, [], .int .i64 (i : Int)), (8, [], .int .i64 (ss.length : Int)), (7, [], .slice (some ⟨sb, off, none⟩) ss.length cap), (3, [], .pointer (some ⟨b, 0, none⟩)), (2, [], .pointer (some ⟨r, 0, none⟩))]) (nd := (fun _ => [])) (by kernel_rfl) (fun _ => by kernel_rfl) trivial ?_
      refine CfgL.eff (o := _) rfl (by kernel_rfl) (by kernel_rfl) (Eff.callM (vs := [.pointer (some ⟨b, 0, none⟩), .string (sat ss i)]) (.tuple #[]) 0 (b := b) (ob := .cells (stC (sz ss i).hs (sz ss i).bl (sz ss i).held (tt ss i)) 67 (0, 0)) (.cells (stC (feed (sz ss i) (sat ss i).data.toList).hs (feed (sz ss i) (sat ss i).data.toList).bl (feed (sz ss i) (sat ss i).data.toList).held ((tt ss i + (sat ss i).size) % 18446744073709551616)) 67 (0, 0)) rfl Tryd.func16 rfl rfl (by kernel_rfl) (by kernel_rfl) (fun w1 h => shaWrite b (sz ss i) (tt ss i) (sat ss i) w1 (sz_ok ss i) (h.hasR (fun e he => by rw [List.mem_singleton.1 he]; exact List.mem_cons_self ..)) (h.own _ (List.mem_of_getElem? (i := 0) rfl)) hne)) ?_
      rintro ⟨⟩ -
      refine CfgL.done rfl ?_
      refine Conv.cfg (Γ' := [(9, [], .int .i64 (i : Int)), (8, [], .int .i64 (ss.length : Int)), (7, [], .slice (some ⟨sb, off, none⟩) ss.length cap), (3, [], .pointer (some ⟨b, 0, none⟩)), (2, [], .pointer (some ⟨r, 0, none⟩))]) (Conv.mk (by kernel_rfl)) ?_
      refine Cfg.reg rfl [2, 3, 7, 8, 9] [] (Γ' := [(9, [], .int .i64 ((i : Int) + 1)), (8, [], .int .i64 (ss.length : Int)), (7, [], .slice (some ⟨sb, off, none⟩) ss.length cap), (3, [], .pointer (some ⟨b, 0, none⟩)), (2, [], .pointer (some ⟨r, 0, none⟩))]) (nd := (fun _ => [((-9223372036854775808 : Int) ≤ ((i : Int) + 1) ∧ ((i : Int) + 1) ≤ 9223372036854775807)])) (fun _ => by kernel_rfl) ⟨(by omega), trivial⟩ ?_
      refine Cfg.setO (O' := [(b, .cells (stC (sz ss (i + 1)).hs (sz ss (i + 1)).bl (sz ss (i + 1)).held (tt ss (i + 1))) 67 (0, 0)), (r, .cells (bv (List.replicate 32 0)) 25 (0, 0))]) (congrArg (fun (xq : Array Value) => ([(b, .cells xq 67 (0, 0)), (r, .cells (bv (List.replicate 32 0)) 25 (0, 0))] : List (Nat × Obj))) (by rw [sz_succ (by omega), tt_succ (by omega)])) ?_
      refine Cfg.again rfl (i + 1) (by show i + 1 ≤ ss.length; omega) (by show ss.length - (i + 1) < ss.length - i; omega) (Conv.mk (by kernel_rfl)) (.cons_cons _ (.cons_cons _ .slnil))
    · have c1 : (¬ ((i : Int) < (ss.length : Int))) := (of_decide_eq_false c1r)
      obtain rfl : i = ss.length := by omega
      refine Conv.cfg (Γ' := [(8, [], .int .i64 (ss.length : Int)), (7, [], .slice la ss.length cap), (3, [], .pointer (some ⟨b, 0, none⟩)), (2, [], .pointer (some ⟨r, 0, none⟩))]) (Conv.mk (by kernel_rfl)) ?_
      refine Cfg.begL rfl ?_
      refine CfgL.pure 1 [] none (Γ' := [(17, [], .pointer (some ⟨b, 0, none⟩)), (8, [], .int .i64 (ss.length : Int)), (7, [], .slice la ss.length cap), (3, [], .pointer (some ⟨b, 0, none⟩)), (2, [], .pointer (some ⟨r, 0, none⟩))]) (nd := (fun _ => [])) (by kernel_rfl) (fun _ => by kernel_rfl) trivial ?_
      refine CfgL.eff (o := _) rfl (by kernel_rfl) (by kernel_rfl) (Eff.callD (vs := [.pointer (some ⟨b, 0, none⟩)]) (.agg (bv (shaD (cat ss)))) 0 (b := b) (ob := .cells (stC (sz ss ss.length).hs (sz ss ss.length).bl (sz ss ss.length).held (tt ss ss.length)) 67 (0, 0)) rfl Tryd.func17 rfl rfl (by kernel_rfl) (by kernel_rfl) (fun w1 h => by have := shaEndC b (sz ss ss.length) (tt ss ss.length) w1 (sz_ok ss _) (h.hasR (fun e he => by rw [List.mem_singleton.1 he]; exact List.mem_cons_self ..)) (h.own _ (List.mem_of_getElem? (i := 0) rfl)) hne; rw [sz_all] at this; exact this)) ?_
      rintro ⟨⟩ -
      refine CfgL.eff (o := _) rfl (by kernel_rfl) (by kernel_rfl) (Eff.storeN (b := r) (off := 0) (vs := (bv (shaD (cat ss)))) (n := 32) rfl (by kernel_rfl) (by kernel_rfl) (by kernel_rfl) (dz _) (all_bv _) 0 (cs := (bv (List.replicate 32 0))) (e := 25) (by kernel_rfl) (by rw [zsz]; omega)) ?_
      rintro ⟨⟩ -
      refine CfgL.setO (O' := [(r, .cells (bv (shaD (cat ss))) 25 (0, 0))]) (congrArg (fun (xq : Array Value) => ([(r, .cells xq 25 (0, 0))] : List (Nat × Obj))) (spl_all ((dz _).trans zsz.symm))) ?_
      refine CfgL.done rfl ?_
      refine Conv.cfg (Γ' := [(2, [], .pointer (some ⟨r, 0, none⟩))]) (Conv.mk (by kernel_rfl)) ?_
      refine Cfg.ret rfl (rs := [.cell 2 25]) rfl [.agg (bv (shaD (cat ss)))] ⟨⟨_, by kernel_rfl, (fun w1 h => h.oload 0 rfl Tryd.underlying25 rfl (n := 32) (by kernel_rfl) (dz _))⟩, trivial⟩ (fun w1 hp => ?_)
      exact ⟨rfl, hp.ext⟩

end Go.Proofs.YtphnkangpboplaaDoor
