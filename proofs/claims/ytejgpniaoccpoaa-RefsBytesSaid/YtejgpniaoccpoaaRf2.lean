/- refs: where a name stands, in a row; where a branch is. -/
import Derived.Test.YtejgpniaoccpoaaRf1
namespace Go.Proofs.Ytejgpniaoccpoaa
open K
set_option linter.unusedVariables false

set_option maxRecDepth 100000 in
theorem rPlace1 (r : Rf) (nb : Nat) (n : ByteArray) (w : World) (hR : Has w [(nb, .cells #[.string n] 9 (0, 0))]) :
    Calls Try.prog 65 #[.agg (rc r).toArray, .pointer (some ⟨nb, 0, none⟩)] w fun e w' => e = .returned (.bool (pEq n r)) ∧ Ext [] w w' := by
  refine enter (vs := [.agg (rc r).toArray, .pointer (some ⟨nb, 0, none⟩)]) [] [(nb, .cells #[.string n] 9 (0, 0))] [] Try.func65 rfl (by kernel_rfl) (HP.ofHas hR) ?_
  refine Cfg.begL rfl ?_
  refine CfgL.eff (o := _) rfl (by kernel_rfl) (by kernel_rfl) (Eff.box (v := .agg (rc r).toArray) rfl (by kernel_rfl)) ?_
  rintro b1 ⟨hb1, nb1⟩
  refine CfgL.pure 1 [] (some [1, 2]) (Γ' := [(2, [], .pointer (some ⟨b1, 0, none⟩)), (1, [], .pointer (some ⟨nb, 0, none⟩))]) (nd := (fun _ => [])) (by kernel_rfl) (fun _ => by kernel_rfl) trivial ?_
  refine CfgL.done rfl ?_
  refine Cfg.reg rfl [3] [(0, false, none), (0, false, some (.string r.1)), (0, false, some (.string n))] (Γ' := [(3, [], .bool (r.1.toList == n.toList))]) (nd := (fun S => [(∀ w1, S w1 → w1.cell? ⟨b1, 0, none⟩ = some (.string r.1)), (∀ w1, S w1 → w1.cell? ⟨nb, 0, none⟩ = some (.string n))])) (fun _ => by kernel_rfl) ⟨(fun w1 h => h.ocell 0 rfl rfl), (fun w1 h => h.rcell 0 rfl rfl), trivial⟩ ?_
  refine Cfg.ret rfl (rs := [.tmp 3]) rfl [.bool (r.1.toList == n.toList)] ⟨by kernel_rfl, trivial⟩ (fun w1 hp => ?_)
  exact ⟨rfl, hp.ext⟩

set_option maxRecDepth 100000 in
theorem rWith1 (r : Rf) (nb : Nat) (x : Rf) (w : World) (hR : Has w [(nb, .cells (rc x).toArray 50 (0, 0))]) :
    Calls Try.prog 67 #[.agg (rc r).toArray, .pointer (some ⟨nb, 0, none⟩)] w fun e w' => e = .returned (.bool (pGt x r)) ∧ Ext [] w w' := by
  refine enter (vs := [.agg (rc r).toArray, .pointer (some ⟨nb, 0, none⟩)]) [] [(nb, .cells ((rc x).toArray) 50 (0, 0))] [] Try.func67 rfl (by kernel_rfl) (HP.ofHas hR) ?_
  refine Cfg.begL rfl ?_
  refine CfgL.eff (o := _) rfl (by kernel_rfl) (by kernel_rfl) (Eff.box (v := .agg (rc r).toArray) rfl (by kernel_rfl)) ?_
  rintro b1 ⟨hb1, nb1⟩
  refine CfgL.pure 1 [] (some [1, 2]) (Γ' := [(2, [], .pointer (some ⟨b1, 0, none⟩)), (1, [], .pointer (some ⟨nb, 0, none⟩))]) (nd := (fun _ => [])) (by kernel_rfl) (fun _ => by kernel_rfl) trivial ?_
  refine CfgL.done rfl ?_
  refine Cfg.reg rfl [3] [(0, false, none), (0, false, some (.string r.1)), (0, false, none), (0, false, some (.string x.1))] (Γ' := [(3, [], .bool (!((Op.bytesLess r.1.toList x.1.toList) || (r.1.toList == x.1.toList))))]) (nd := (fun S => [(∀ w1, S w1 → w1.cell? ⟨b1, 0, none⟩ = some (.string r.1)), (∀ w1, S w1 → w1.cell? ⟨nb, 0, none⟩ = some (.string x.1))])) (fun _ => by kernel_rfl) ⟨(fun w1 h => h.ocell 0 rfl rfl), (fun w1 h => h.rcell 0 rfl rfl), trivial⟩ ?_
  refine Cfg.ret rfl (rs := [.tmp 3]) rfl [.bool (!((Op.bytesLess r.1.toList x.1.toList) || (r.1.toList == x.1.toList)))] ⟨by kernel_rfl, trivial⟩ (fun w1 hp => ?_)
  exact ⟨rfl, hp.ext⟩

set_option maxRecDepth 100000 in
theorem idxPlace (la : Option Addr) (cap : Nat) (l : List Rf) (nb : Nat) (n : ByteArray) (Rl : List (Nat × Obj)) (w : World) (hI : InR Rl la l) (hW : W32 l) (hR : Has w Rl) (hn : l.length ≤ maxLen) (hN : (nb, .cells #[.string n] 9 (0, 0)) ∈ Rl) :
    Calls Try.prog 64 #[.slice la l.length cap, .func (.func 65) #[] #[.pointer (some ⟨nb, 0, none⟩)]] w fun e w' => e = .returned (.int .i64 (fidx (pEq n) l)) ∧ Ext [] w w' := by
  unfold maxLen at hn
  refine enter (vs := [.slice la l.length cap, .func (.func 65) #[] #[.pointer (some ⟨nb, 0, none⟩)]]) [] Rl [] Try.func64 rfl (by kernel_rfl) (HP.ofHas hR) ?_
  refine Cfg.reg rfl [0, 1] [] (Γ' := [(0, [], .slice la l.length cap), (1, [], .func (.func 65) #[] #[.pointer (some ⟨nb, 0, none⟩)])]) (nd := (fun _ => [])) (fun _ => by kernel_rfl) trivial ?_
  refine Cfg.reg rfl [0, 1, 7, 8] [] (Γ' := [(8, [], .int .i64 0), (7, [], .int .i64 (l.length : Int)), (0, [], .slice la l.length cap), (1, [], .func (.func 65) #[] #[.pointer (some ⟨nb, 0, none⟩)])]) (nd := (fun _ => [])) (fun _ => by kernel_rfl) trivial ?_
  refine Cfg.loop rfl (ι := Nat) (fun (i : Nat) => [(8, [], .int .i64 (i : Int)), (7, [], .int .i64 (l.length : Int)), (0, [], .slice la l.length cap), (1, [], .func (.func 65) #[] #[.pointer (some ⟨nb, 0, none⟩)])]) (fun (i : Nat) => []) (fun (i : Nat) => (i ≤ l.length) ∧ (∀ j, j < i → (pEq n) (l.getD j rz) = false)) (fun (i : Nat) => l.length - i) 0 ?_ (Conv.mk (by kernel_rfl)) .slnil ?_
  · exact ⟨Nat.zero_le _, fun j h => absurd h (Nat.not_lt_zero j)⟩
  · rintro i ⟨hi, hall⟩
    refine Cfg.reg rfl [0, 1, 7, 8, 9] [] (Γ' := [(9, [], .bool (decide ((i : Int) < (l.length : Int)))), (8, [], .int .i64 (i : Int)), (7, [], .int .i64 (l.length : Int)), (0, [], .slice la l.length cap), (1, [], .func (.func 65) #[] #[.pointer (some ⟨nb, 0, none⟩)])]) (nd := (fun _ => [])) (fun _ => by kernel_rfl) trivial ?_
    refine Cfg.cond rfl (b := (decide ((i : Int) < (l.length : Int)))) (by kernel_rfl) (fun c1r => ?_) (fun c1r => ?_)
    · have c1 : ((i : Int) < (l.length : Int)) := (of_decide_eq_true c1r)
      refine Cfg.reg rfl [0, 1, 5, 7, 8] [] (Γ' := [(5, [], .int .i64 (i : Int)), (8, [], .int .i64 (i : Int)), (7, [], .int .i64 (l.length : Int)), (0, [], .slice la l.length cap), (1, [], .func (.func 65) #[] #[.pointer (some ⟨nb, 0, none⟩)])]) (nd := (fun _ => [])) (fun _ => by kernel_rfl) trivial ?_
      obtain ⟨sb, off, cs, te, fre, rfl, hmem, hcs⟩ := hI (by omega)
      refine Conv.cfg (Γ' := [(5, [], .int .i64 (i : Int)), (8, [], .int .i64 (i : Int)), (7, [], .int .i64 (l.length : Int)), (0, [], .slice (some ⟨sb, off, none⟩) l.length cap), (1, [], .func (.func 65) #[] #[.pointer (some ⟨nb, 0, none⟩)])]) (Conv.mk (by kernel_rfl)) ?_
      refine Cfg.begL rfl ?_
      refine CfgL.pure 5 [(0, false, none), (0, false, none), (0, false, none), (0, false, none), (0, false, some (.agg (rc (l.getD i rz)).toArray))] none (Γ' := [(15, [], .agg (rc (l.getD i rz)).toArray), (14, [], .pointer (some ⟨sb, (addO off (i * 33)), none⟩)), (13, [], .int .i64 (i : Int)), (12, [], .slice (some ⟨sb, off, none⟩) l.length cap), (11, [], .func (.func 65) #[] #[.pointer (some ⟨nb, 0, none⟩)]), (5, [], .int .i64 (i : Int)), (8, [], .int .i64 (i : Int)), (7, [], .int .i64 (l.length : Int)), (0, [], .slice (some ⟨sb, off, none⟩) l.length cap), (1, [], .func (.func 65) #[] #[.pointer (some ⟨nb, 0, none⟩)])]) (nd := (fun S => [(0 ≤ (i : Int) ∧ (i : Int) < (l.length : Int)), (∀ w1, S w1 → (loadVar 50 ⟨sb, (addO off (i * 33)), none⟩).run Try.prog w1 = .ok (.agg (rc (l.getD i rz)).toArray) w1)])) (by kernel_rfl) (fun _ => by kernel_rfl) ⟨(by omega), (fun w1 h => load_list Try.underlying50 rfl (by kernel_rfl) (rc_len (hW.at i)) (fun j v hj => by rw [addO_eq]; exact (cell_cells (h.ro _ hmem)).trans (ref_cell hW hcs (by omega) hj))), trivial⟩ ?_
      refine CfgL.eff (o := _) rfl (by kernel_rfl) (by kernel_rfl) (Eff.callAVC (vs := [.agg (rc (l.getD i rz)).toArray]) (.bool (pEq n (l.getD i rz))) [.pointer (some ⟨nb, 0, none⟩)] rfl (by kernel_rfl) Try.func65 rfl rfl (by kernel_rfl) (fun w1 h => rPlace1 (l.getD i rz) nb n w1 (fun e he => by rw [List.mem_singleton.1 he]; exact h.ro _ hN))) ?_
      rintro ⟨⟩ -
      refine CfgL.done rfl ?_
      refine Conv.cfg (Γ' := [(16, [], .bool (pEq n (l.getD i rz))), (5, [], .int .i64 (i : Int)), (8, [], .int .i64 (i : Int)), (7, [], .int .i64 (l.length : Int)), (0, [], .slice (some ⟨sb, off, none⟩) l.length cap), (1, [], .func (.func 65) #[] #[.pointer (some ⟨nb, 0, none⟩)])]) (Conv.mk (by kernel_rfl)) ?_
      refine Cfg.cond rfl (b := (pEq n (l.getD i rz))) (by kernel_rfl) (fun c2r => ?_) (fun c2r => ?_)
      · have c2 : ((pEq n (l.getD i rz)) = true) := c2r
        refine Cfg.reg rfl [4] [] (Γ' := [(4, [], .int .i64 (i : Int))]) (nd := (fun _ => [])) (fun _ => by kernel_rfl) trivial ?_
        refine Cfg.ret rfl (rs := [.tmp 4]) rfl [.int .i64 (i : Int)] ⟨by kernel_rfl, trivial⟩ (fun w1 hp => ?_)
        exact ⟨by rw [fidx_at (by omega) hall c2]; rfl, hp.ext⟩
      · have c2 : ((pEq n (l.getD i rz)) = false) := c2r
        refine Cfg.reg rfl [0, 1, 7, 8] [] (Γ' := [(8, [], .int .i64 ((i : Int) + 1)), (7, [], .int .i64 (l.length : Int)), (0, [], .slice (some ⟨sb, off, none⟩) l.length cap), (1, [], .func (.func 65) #[] #[.pointer (some ⟨nb, 0, none⟩)])]) (nd := (fun _ => [((-9223372036854775808 : Int) ≤ ((i : Int) + 1) ∧ ((i : Int) + 1) ≤ 9223372036854775807)])) (fun _ => by kernel_rfl) ⟨(by omega), trivial⟩ ?_
        refine Cfg.again rfl (i + 1) ⟨by omega, fun j hj => by rcases Nat.lt_or_ge j i with h1 | h1; exact hall j h1; rw [show j = i by omega]; exact c2⟩ (by omega) (Conv.mk (by kernel_rfl)) .slnil
    · have c1 : (¬ ((i : Int) < (l.length : Int))) := (of_decide_eq_false c1r)
      refine Cfg.reg rfl [4] [] (Γ' := [(4, [], .int .i64 (-1))]) (nd := (fun _ => [])) (fun _ => by kernel_rfl) trivial ?_
      refine Cfg.ret rfl (rs := [.tmp 4]) rfl [.int .i64 (-1)] ⟨by kernel_rfl, trivial⟩ (fun w1 hp => ?_)
      exact ⟨by rw [fidx_none (fun j hj => hall j (by omega))]; rfl, hp.ext⟩

set_option maxRecDepth 100000 in
theorem idxWith (la : Option Addr) (cap : Nat) (l : List Rf) (nb : Nat) (x : Rf) (Rl : List (Nat × Obj)) (w : World) (hI : InR Rl la l) (hW : W32 l) (hR : Has w Rl) (hn : l.length ≤ maxLen) (hN : (nb, .cells (rc x).toArray 50 (0, 0)) ∈ Rl) :
    Calls Try.prog 64 #[.slice la l.length cap, .func (.func 67) #[] #[.pointer (some ⟨nb, 0, none⟩)]] w fun e w' => e = .returned (.int .i64 (fidx (pGt x) l)) ∧ Ext [] w w' := by
  unfold maxLen at hn
  refine enter (vs := [.slice la l.length cap, .func (.func 67) #[] #[.pointer (some ⟨nb, 0, none⟩)]]) [] Rl [] Try.func64 rfl (by kernel_rfl) (HP.ofHas hR) ?_
  refine Cfg.reg rfl [0, 1] [] (Γ' := [(0, [], .slice la l.length cap), (1, [], .func (.func 67) #[] #[.pointer (some ⟨nb, 0, none⟩)])]) (nd := (fun _ => [])) (fun _ => by kernel_rfl) trivial ?_
  refine Cfg.reg rfl [0, 1, 7, 8] [] (Γ' := [(8, [], .int .i64 0), (7, [], .int .i64 (l.length : Int)), (0, [], .slice la l.length cap), (1, [], .func (.func 67) #[] #[.pointer (some ⟨nb, 0, none⟩)])]) (nd := (fun _ => [])) (fun _ => by kernel_rfl) trivial ?_
  refine Cfg.loop rfl (ι := Nat) (fun (i : Nat) => [(8, [], .int .i64 (i : Int)), (7, [], .int .i64 (l.length : Int)), (0, [], .slice la l.length cap), (1, [], .func (.func 67) #[] #[.pointer (some ⟨nb, 0, none⟩)])]) (fun (i : Nat) => []) (fun (i : Nat) => (i ≤ l.length) ∧ (∀ j, j < i → (pGt x) (l.getD j rz) = false)) (fun (i : Nat) => l.length - i) 0 ?_ (Conv.mk (by kernel_rfl)) .slnil ?_
  · exact ⟨Nat.zero_le _, fun j h => absurd h (Nat.not_lt_zero j)⟩
  · rintro i ⟨hi, hall⟩
    refine Cfg.reg rfl [0, 1, 7, 8, 9] [] (Γ' := [(9, [], .bool (decide ((i : Int) < (l.length : Int)))), (8, [], .int .i64 (i : Int)), (7, [], .int .i64 (l.length : Int)), (0, [], .slice la l.length cap), (1, [], .func (.func 67) #[] #[.pointer (some ⟨nb, 0, none⟩)])]) (nd := (fun _ => [])) (fun _ => by kernel_rfl) trivial ?_
    refine Cfg.cond rfl (b := (decide ((i : Int) < (l.length : Int)))) (by kernel_rfl) (fun c1r => ?_) (fun c1r => ?_)
    · have c1 : ((i : Int) < (l.length : Int)) := (of_decide_eq_true c1r)
      refine Cfg.reg rfl [0, 1, 5, 7, 8] [] (Γ' := [(5, [], .int .i64 (i : Int)), (8, [], .int .i64 (i : Int)), (7, [], .int .i64 (l.length : Int)), (0, [], .slice la l.length cap), (1, [], .func (.func 67) #[] #[.pointer (some ⟨nb, 0, none⟩)])]) (nd := (fun _ => [])) (fun _ => by kernel_rfl) trivial ?_
      obtain ⟨sb, off, cs, te, fre, rfl, hmem, hcs⟩ := hI (by omega)
      refine Conv.cfg (Γ' := [(5, [], .int .i64 (i : Int)), (8, [], .int .i64 (i : Int)), (7, [], .int .i64 (l.length : Int)), (0, [], .slice (some ⟨sb, off, none⟩) l.length cap), (1, [], .func (.func 67) #[] #[.pointer (some ⟨nb, 0, none⟩)])]) (Conv.mk (by kernel_rfl)) ?_
      refine Cfg.begL rfl ?_
      refine CfgL.pure 5 [(0, false, none), (0, false, none), (0, false, none), (0, false, none), (0, false, some (.agg (rc (l.getD i rz)).toArray))] none (Γ' := [(15, [], .agg (rc (l.getD i rz)).toArray), (14, [], .pointer (some ⟨sb, (addO off (i * 33)), none⟩)), (13, [], .int .i64 (i : Int)), (12, [], .slice (some ⟨sb, off, none⟩) l.length cap), (11, [], .func (.func 67) #[] #[.pointer (some ⟨nb, 0, none⟩)]), (5, [], .int .i64 (i : Int)), (8, [], .int .i64 (i : Int)), (7, [], .int .i64 (l.length : Int)), (0, [], .slice (some ⟨sb, off, none⟩) l.length cap), (1, [], .func (.func 67) #[] #[.pointer (some ⟨nb, 0, none⟩)])]) (nd := (fun S => [(0 ≤ (i : Int) ∧ (i : Int) < (l.length : Int)), (∀ w1, S w1 → (loadVar 50 ⟨sb, (addO off (i * 33)), none⟩).run Try.prog w1 = .ok (.agg (rc (l.getD i rz)).toArray) w1)])) (by kernel_rfl) (fun _ => by kernel_rfl) ⟨(by omega), (fun w1 h => load_list Try.underlying50 rfl (by kernel_rfl) (rc_len (hW.at i)) (fun j v hj => by rw [addO_eq]; exact (cell_cells (h.ro _ hmem)).trans (ref_cell hW hcs (by omega) hj))), trivial⟩ ?_
      refine CfgL.eff (o := _) rfl (by kernel_rfl) (by kernel_rfl) (Eff.callAVC (vs := [.agg (rc (l.getD i rz)).toArray]) (.bool (pGt x (l.getD i rz))) [.pointer (some ⟨nb, 0, none⟩)] rfl (by kernel_rfl) Try.func67 rfl rfl (by kernel_rfl) (fun w1 h => rWith1 (l.getD i rz) nb x w1 (fun e he => by rw [List.mem_singleton.1 he]; exact h.ro _ hN))) ?_
      rintro ⟨⟩ -
      refine CfgL.done rfl ?_
      refine Conv.cfg (Γ' := [(16, [], .bool (pGt x (l.getD i rz))), (5, [], .int .i64 (i : Int)), (8, [], .int .i64 (i : Int)), (7, [], .int .i64 (l.length : Int)), (0, [], .slice (some ⟨sb, off, none⟩) l.length cap), (1, [], .func (.func 67) #[] #[.pointer (some ⟨nb, 0, none⟩)])]) (Conv.mk (by kernel_rfl)) ?_
      refine Cfg.cond rfl (b := (pGt x (l.getD i rz))) (by kernel_rfl) (fun c2r => ?_) (fun c2r => ?_)
      · have c2 : ((pGt x (l.getD i rz)) = true) := c2r
        refine Cfg.reg rfl [4] [] (Γ' := [(4, [], .int .i64 (i : Int))]) (nd := (fun _ => [])) (fun _ => by kernel_rfl) trivial ?_
        refine Cfg.ret rfl (rs := [.tmp 4]) rfl [.int .i64 (i : Int)] ⟨by kernel_rfl, trivial⟩ (fun w1 hp => ?_)
        exact ⟨by rw [fidx_at (by omega) hall c2]; rfl, hp.ext⟩
      · have c2 : ((pGt x (l.getD i rz)) = false) := c2r
        refine Cfg.reg rfl [0, 1, 7, 8] [] (Γ' := [(8, [], .int .i64 ((i : Int) + 1)), (7, [], .int .i64 (l.length : Int)), (0, [], .slice (some ⟨sb, off, none⟩) l.length cap), (1, [], .func (.func 67) #[] #[.pointer (some ⟨nb, 0, none⟩)])]) (nd := (fun _ => [((-9223372036854775808 : Int) ≤ ((i : Int) + 1) ∧ ((i : Int) + 1) ≤ 9223372036854775807)])) (fun _ => by kernel_rfl) ⟨(by omega), trivial⟩ ?_
        refine Cfg.again rfl (i + 1) ⟨by omega, fun j hj => by rcases Nat.lt_or_ge j i with h1 | h1; exact hall j h1; rw [show j = i by omega]; exact c2⟩ (by omega) (Conv.mk (by kernel_rfl)) .slnil
    · have c1 : (¬ ((i : Int) < (l.length : Int))) := (of_decide_eq_false c1r)
      refine Cfg.reg rfl [4] [] (Γ' := [(4, [], .int .i64 (-1))]) (nd := (fun _ => [])) (fun _ => by kernel_rfl) trivial ?_
      refine Cfg.ret rfl (rs := [.tmp 4]) rfl [.int .i64 (-1)] ⟨by kernel_rfl, trivial⟩ (fun w1 hp => ?_)
      exact ⟨by rw [fidx_none (fun j hj => hall j (by omega))]; rfl, hp.ext⟩

set_option maxRecDepth 100000 in
theorem rPlace (la : Option Addr) (cap : Nat) (l : List Rf) (n : ByteArray) (Rl : List (Nat × Obj)) (w : World) (hI : InR Rl la l) (hW : W32 l) (hR : Has w Rl) (hn : l.length ≤ maxLen) :
    Calls Try.prog 39 #[.slice la l.length cap, .string n] w fun e w' => e = .returned (.int .i64 (fidx (pEq n) l)) ∧ Ext [] w w' := by
  refine enter (vs := [.slice la l.length cap, .string n]) [] Rl [] Try.func39 rfl (by kernel_rfl) (HP.ofHas hR) ?_
  refine Cfg.begL rfl ?_
  refine CfgL.eff (o := _) rfl (by kernel_rfl) (by kernel_rfl) (Eff.box (v := .string n) rfl (by kernel_rfl)) ?_
  rintro b1 ⟨hb1, nb1⟩
  refine CfgL.pure 1 [] (some [0, 3]) (Γ' := [(3, [], .pointer (some ⟨b1, 0, none⟩)), (0, [], .slice la l.length cap)]) (nd := (fun _ => [])) (by kernel_rfl) (fun _ => by kernel_rfl) trivial ?_
  refine CfgL.done rfl ?_
  refine Cfg.begL rfl ?_
  refine CfgL.pure 2 [] none (Γ' := [(6, [], .func (.func 65) #[] #[.pointer (some ⟨b1, 0, none⟩)]), (5, [], .slice la l.length cap), (3, [], .pointer (some ⟨b1, 0, none⟩)), (0, [], .slice la l.length cap)]) (nd := (fun _ => [])) (by kernel_rfl) (fun _ => by kernel_rfl) trivial ?_
  refine CfgL.eff (o := _) rfl (by kernel_rfl) (by kernel_rfl) (Eff.callA (vs := [.slice la l.length cap, .func (.func 65) #[] #[.pointer (some ⟨b1, 0, none⟩)]]) (.int .i64 (fidx (pEq n) l)) rfl Try.func64 rfl rfl (by kernel_rfl) (fun w1 h => idxPlace la cap l b1 n ((b1, Obj.cells #[.string n] 9 (0, 0)) :: Rl) w1 (hI.mono (fun e he => List.mem_cons_of_mem _ he)) hW (has_app (A := [(b1, Obj.cells #[.string n] 9 (0, 0))]) (h.has (fun e he => he)) (h.hasR (fun e he => he))) hn (List.mem_cons_self ..))) ?_
  rintro ⟨⟩ -
  refine CfgL.pure 1 [] (some [4]) (Γ' := [(4, [], .int .i64 (fidx (pEq n) l))]) (nd := (fun _ => [])) (by kernel_rfl) (fun _ => by kernel_rfl) trivial ?_
  refine CfgL.done rfl ?_
  refine Cfg.ret rfl (rs := [.tmp 4]) rfl [.int .i64 (fidx (pEq n) l)] ⟨by kernel_rfl, trivial⟩ (fun w1 hp => ?_)
  exact ⟨rfl, hp.ext⟩

set_option maxRecDepth 100000 in
theorem rAt (la : Option Addr) (cap : Nat) (l : List Rf) (n : ByteArray) (Rl : List (Nat × Obj)) (w : World) (hI : InR Rl la l) (hW : W32 l) (hR : Has w Rl) (hn : l.length ≤ maxLen) :
    Calls Try.prog 43 #[.slice la l.length cap, .string n] w fun e w' => e = .returned (.tuple #[.agg (bv (atF l n)), .bool (decide (0 ≤ fidx (pEq n) l))]) ∧ Ext [] w w' := by
  have hfl := fidx_lt (pEq n) l
  unfold maxLen at hn
  refine enter (vs := [.slice la l.length cap, .string n]) [] Rl [] Try.func43 rfl (by kernel_rfl) (HP.ofHas hR) ?_
  refine Cfg.begL rfl ?_
  refine CfgL.eff (o := _) rfl (by kernel_rfl) (by kernel_rfl) (Eff.alloc (z := (.agg (bv (List.replicate 32 0)))) rfl (by kernel_rfl)) ?_
  rintro b1 ⟨hb1, nb1⟩
  refine CfgL.pure 1 [] (some [0, 1, 4]) (Γ' := [(4, [], .pointer (some ⟨b1, 0, none⟩)), (0, [], .slice la l.length cap), (1, [], .string n)]) (nd := (fun _ => [])) (by kernel_rfl) (fun _ => by kernel_rfl) trivial ?_
  refine CfgL.done rfl ?_
  refine Cfg.begL rfl ?_
  refine CfgL.pure 2 [] none (Γ' := [(8, [], .string n), (7, [], .slice la l.length cap), (4, [], .pointer (some ⟨b1, 0, none⟩)), (0, [], .slice la l.length cap), (1, [], .string n)]) (nd := (fun _ => [])) (by kernel_rfl) (fun _ => by kernel_rfl) trivial ?_
  refine CfgL.eff (o := _) rfl (by kernel_rfl) (by kernel_rfl) (Eff.callA (vs := [.slice la l.length cap, .string n]) (.int .i64 (fidx (pEq n) l)) rfl Try.func39 rfl rfl (by kernel_rfl) (fun w1 h => rPlace la cap l n Rl w1 hI hW (h.hasR (fun e he => he)) (by unfold maxLen; omega))) ?_
  rintro ⟨⟩ -
  refine CfgL.pure 1 [] (some [0, 4, 6]) (Γ' := [(6, [], .int .i64 (fidx (pEq n) l)), (4, [], .pointer (some ⟨b1, 0, none⟩)), (0, [], .slice la l.length cap)]) (nd := (fun _ => [])) (by kernel_rfl) (fun _ => by kernel_rfl) trivial ?_
  refine CfgL.done rfl ?_
  refine Cfg.reg rfl [0, 4, 6, 11] [] (Γ' := [(11, [], .bool (decide ((fidx (pEq n) l) < (0 : Int)))), (6, [], .int .i64 (fidx (pEq n) l)), (4, [], .pointer (some ⟨b1, 0, none⟩)), (0, [], .slice la l.length cap)]) (nd := (fun _ => [])) (fun _ => by kernel_rfl) trivial ?_
  refine Cfg.cond rfl (b := (decide ((fidx (pEq n) l) < (0 : Int)))) (by kernel_rfl) (fun c1r => ?_) (fun c1r => ?_)
  · have c1 : ((fidx (pEq n) l) < (0 : Int)) := (of_decide_eq_true c1r)
    refine Cfg.begL rfl ?_
    refine CfgL.pure 1 [(0, false, some (.agg (bv (List.replicate 32 0))))] none (Γ' := [(12, [], .agg (bv (List.replicate 32 0))), (11, [], .bool (decide ((fidx (pEq n) l) < (0 : Int)))), (6, [], .int .i64 (fidx (pEq n) l)), (4, [], .pointer (some ⟨b1, 0, none⟩)), (0, [], .slice la l.length cap)]) (nd := (fun S => [(∀ w1, S w1 → (Instr.build 45 #[]).run Try.prog w1 = .ok (.agg (bv (List.replicate 32 0))) w1)])) (by kernel_rfl) (fun _ => by kernel_rfl) ⟨(fun _ _ => by kernel_rfl), trivial⟩ ?_
    refine CfgL.eff (o := _) rfl (by kernel_rfl) (by kernel_rfl) (Eff.storeN (b := b1) (off := 0) (vs := (bv (List.replicate 32 0))) (n := 32) rfl (by kernel_rfl) (by kernel_rfl) (by kernel_rfl) ((bv_size _).trans rfl) (all_bv _) 0 (cs := (bv (List.replicate 32 0))) (e := 45) (by kernel_rfl) (by rw [zsz33]; omega)) ?_
    rintro ⟨⟩ -
    refine CfgL.setO (O' := [(b1, .cells (bv (List.replicate 32 0)) 45 (0, 0))]) (congrArg (fun (xq : Array Value) => ([(b1, .cells xq 45 (0, 0))] : List (Nat × Obj))) (spl_all (((bv_size _).trans rfl).trans zsz33.symm))) ?_
    refine CfgL.pure 1 [] (some [4, 5]) (Γ' := [(5, [], .bool false), (4, [], .pointer (some ⟨b1, 0, none⟩))]) (nd := (fun _ => [])) (by kernel_rfl) (fun _ => by kernel_rfl) trivial ?_
    refine CfgL.done rfl ?_
    refine Cfg.ret rfl (rs := [.cell 4 45, .tmp 5]) rfl [.agg (bv (List.replicate 32 0)), .bool false] ⟨⟨_, by kernel_rfl, (fun w1 h => h.oload 0 rfl Try.underlying45 rfl (n := 32) (by kernel_rfl) ((bv_size _).trans rfl))⟩, by kernel_rfl, trivial⟩ (fun w1 hp => ?_)
    exact ⟨by rw [show atF l n = List.replicate 32 0 from if_pos c1, decide_eq_false (by omega)]; rfl, hp.ext⟩
  · have c1 : (¬ ((fidx (pEq n) l) < (0 : Int))) := (of_decide_eq_false c1r)
    obtain ⟨sb, off, cs, te, fre, rfl, hmem, hcs⟩ := hI (by omega)
    refine Conv.cfg (Γ' := [(11, [], .bool (decide ((fidx (pEq n) l) < (0 : Int)))), (6, [], .int .i64 (fidx (pEq n) l)), (4, [], .pointer (some ⟨b1, 0, none⟩)), (0, [], .slice (some ⟨sb, off, none⟩) l.length cap)]) (Conv.mk (by kernel_rfl)) ?_
    refine Cfg.begL rfl ?_
    refine CfgL.pure 5 [(0, false, none), (0, false, none), (0, false, none), (0, false, none), (0, false, some (.agg (bv (l.getD (fidx (pEq n) l).toNat rz).2)))] none (Γ' := [(17, [], .agg (bv (l.getD (fidx (pEq n) l).toNat rz).2)), (16, [], .pointer (some ⟨sb, ((addO off (((fidx (pEq n) l)).toNat * 33)) + 1), none⟩)), (15, [], .pointer (some ⟨sb, (addO off (((fidx (pEq n) l)).toNat * 33)), none⟩)), (14, [], .int .i64 (fidx (pEq n) l)), (13, [], .slice (some ⟨sb, off, none⟩) l.length cap), (11, [], .bool (decide ((fidx (pEq n) l) < (0 : Int)))), (6, [], .int .i64 (fidx (pEq n) l)), (4, [], .pointer (some ⟨b1, 0, none⟩)), (0, [], .slice (some ⟨sb, off, none⟩) l.length cap)]) (nd := (fun S => [(0 ≤ (fidx (pEq n) l) ∧ (fidx (pEq n) l) < (l.length : Int)), (∀ w1, S w1 → (loadVar 45 ⟨sb, ((addO off (((fidx (pEq n) l)).toNat * 33)) + 1), none⟩).run Try.prog w1 = .ok (.agg (bv (l.getD (fidx (pEq n) l).toNat rz).2)) w1)])) (by kernel_rfl) (fun _ => by kernel_rfl) ⟨(by omega), (fun w1 h => load_bytes Try.underlying45 rfl (by kernel_rfl) (hW.at _) (fun j hj => by rw [addO_eq]; exact (cell_cells (h.ro _ hmem)).trans (ref_byte hW hcs (by omega) hj))), trivial⟩ ?_
    refine CfgL.eff (o := _) rfl (by kernel_rfl) (by kernel_rfl) (Eff.storeN (b := b1) (off := 0) (vs := (bv (l.getD (fidx (pEq n) l).toNat rz).2)) (n := 32) rfl (by kernel_rfl) (by kernel_rfl) (by kernel_rfl) ((bv_size _).trans (hW.at _)) (all_bv _) 0 (cs := (bv (List.replicate 32 0))) (e := 45) (by kernel_rfl) (by rw [zsz33]; omega)) ?_
    rintro ⟨⟩ -
    refine CfgL.setO (O' := [(b1, .cells (bv ((l.getD (fidx (pEq n) l).toNat rz).2)) 45 (0, 0))]) (congrArg (fun (xq : Array Value) => ([(b1, .cells xq 45 (0, 0))] : List (Nat × Obj))) (spl_all (((bv_size _).trans (hW.at _)).trans zsz33.symm))) ?_
    refine CfgL.pure 1 [] (some [4, 5]) (Γ' := [(5, [], .bool true), (4, [], .pointer (some ⟨b1, 0, none⟩))]) (nd := (fun _ => [])) (by kernel_rfl) (fun _ => by kernel_rfl) trivial ?_
    refine CfgL.done rfl ?_
    refine Cfg.ret rfl (rs := [.cell 4 45, .tmp 5]) rfl [.agg (bv ((l.getD (fidx (pEq n) l).toNat rz).2)), .bool true] ⟨⟨_, by kernel_rfl, (fun w1 h => h.oload 0 rfl Try.underlying45 rfl (n := 32) (by kernel_rfl) ((bv_size _).trans (hW.at _)))⟩, by kernel_rfl, trivial⟩ (fun w1 hp => ?_)
    exact ⟨by rw [show atF l n = (l.getD (fidx (pEq n) l).toNat rz).2 from if_neg (by omega), decide_eq_true (by omega)]; rfl, hp.ext⟩

set_option maxRecDepth 100000 in
theorem rBranch (hd : ByteArray) (la : Option Addr) (cap : Nat) (l : List Rf) (xa : Option Addr) (xn xc : Nat) (nx : Int) (n : ByteArray) (Rl : List (Nat × Obj)) (w : World) (hI : InR Rl la l) (hW : W32 l) (hR : Has w Rl) (hn : l.length ≤ maxLen) :
    Calls Try.prog 15 #[.agg #[.string hd, .slice la l.length cap, .slice xa xn xc, .int .u64 nx], .string n] w fun e w' => e = .returned (.tuple #[.agg (bv (atF l n)), .bool (decide (0 ≤ fidx (pEq n) l))]) ∧ Ext [] w w' := by
  refine enter (vs := [.agg #[.string hd, .slice la l.length cap, .slice xa xn xc, .int .u64 nx], .string n]) [] Rl [] Try.func15 rfl (by kernel_rfl) (HP.ofHas hR) ?_
  refine Cfg.begL rfl ?_
  refine CfgL.eff (o := _) rfl (by kernel_rfl) (by kernel_rfl) (Eff.box (v := .agg #[.string hd, .slice la l.length cap, .slice xa xn xc, .int .u64 nx]) rfl (by kernel_rfl)) ?_
  rintro b1 ⟨hb1, nb1⟩
  refine CfgL.eff (o := _) rfl (by kernel_rfl) (by kernel_rfl) (Eff.alloc (z := (.agg (bv (List.replicate 32 0)))) rfl (by kernel_rfl)) ?_
  rintro b2 ⟨hb2, nb2⟩
  refine CfgL.pure 1 [] (some [1, 2, 4]) (Γ' := [(4, [], .pointer (some ⟨b2, 0, none⟩)), (2, [], .pointer (some ⟨b1, 0, none⟩)), (1, [], .string n)]) (nd := (fun _ => [])) (by kernel_rfl) (fun _ => by kernel_rfl) trivial ?_
  refine CfgL.done rfl ?_
  refine Cfg.begL rfl ?_
  refine CfgL.pure 3 [(0, false, none), (0, false, some (.slice la l.length cap))] none (Γ' := [(8, [], .string n), (7, [], .slice la l.length cap), (6, [], .pointer (some ⟨b1, 1, none⟩)), (4, [], .pointer (some ⟨b2, 0, none⟩)), (2, [], .pointer (some ⟨b1, 0, none⟩)), (1, [], .string n)]) (nd := (fun S => [(∀ w1, S w1 → w1.cell? ⟨b1, 1, none⟩ = some (.slice la l.length cap))])) (by kernel_rfl) (fun _ => by kernel_rfl) ⟨(fun w1 h => h.ocell 1 rfl rfl), trivial⟩ ?_
  refine CfgL.eff (o := _) rfl (by kernel_rfl) (by kernel_rfl) (Eff.callA (vs := [.slice la l.length cap, .string n]) (.tuple #[.agg (bv (atF l n)), .bool (decide (0 ≤ fidx (pEq n) l))]) rfl Try.func43 rfl rfl (by kernel_rfl) (fun w1 h => rAt la cap l n Rl w1 hI hW (h.hasR (fun e he => he)) hn)) ?_
  rintro ⟨⟩ -
  refine CfgL.pure 2 [] none (Γ' := [(11, [], .bool (decide (0 ≤ fidx (pEq n) l))), (10, [], .agg (bv (atF l n))), (9, [], .tuple #[.agg (bv (atF l n)), .bool (decide (0 ≤ fidx (pEq n) l))]), (8, [], .string n), (7, [], .slice la l.length cap), (6, [], .pointer (some ⟨b1, 1, none⟩)), (4, [], .pointer (some ⟨b2, 0, none⟩)), (2, [], .pointer (some ⟨b1, 0, none⟩)), (1, [], .string n)]) (nd := (fun _ => [])) (by kernel_rfl) (fun _ => by kernel_rfl) trivial ?_
  refine CfgL.eff (o := _) rfl (by kernel_rfl) (by kernel_rfl) (Eff.storeN (b := b2) (off := 0) (vs := (bv (atF l n))) (n := 32) rfl (by kernel_rfl) (by kernel_rfl) (by kernel_rfl) ((bv_size _).trans (atF_len hW n)) (all_bv _) 0 (cs := (bv (List.replicate 32 0))) (e := 45) (by kernel_rfl) (by rw [zsz33]; omega)) ?_
  rintro ⟨⟩ -
  refine CfgL.setO (O' := [(b2, .cells (bv (atF l n)) 45 (0, 0)), (b1, .cells #[.string hd, .slice la l.length cap, .slice xa xn xc, .int .u64 nx] 25 (0, 0))]) (congrArg (fun (xq : Array Value) => ([(b2, .cells xq 45 (0, 0)), (b1, .cells #[.string hd, .slice la l.length cap, .slice xa xn xc, .int .u64 nx] 25 (0, 0))] : List (Nat × Obj))) (spl_all (((bv_size _).trans (atF_len hW n)).trans zsz33.symm))) ?_
  refine CfgL.pure 1 [] (some [4, 5]) (Γ' := [(5, [], .bool (decide (0 ≤ fidx (pEq n) l))), (4, [], .pointer (some ⟨b2, 0, none⟩))]) (nd := (fun _ => [])) (by kernel_rfl) (fun _ => by kernel_rfl) trivial ?_
  refine CfgL.done rfl ?_
  refine Cfg.ret rfl (rs := [.cell 4 45, .tmp 5]) rfl [.agg (bv (atF l n)), .bool (decide (0 ≤ fidx (pEq n) l))] ⟨⟨_, by kernel_rfl, (fun w1 h => h.oload 0 rfl Try.underlying45 rfl (n := 32) (by kernel_rfl) ((bv_size _).trans (atF_len hW n)))⟩, by kernel_rfl, trivial⟩ (fun w1 hp => ?_)
  exact ⟨rfl, hp.ext⟩

end Go.Proofs.Ytejgpniaoccpoaa
