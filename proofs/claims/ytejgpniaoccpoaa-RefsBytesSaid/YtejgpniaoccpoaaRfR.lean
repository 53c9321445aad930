/- refs: whether a state may be. -/
import Derived.Test.YtejgpniaoccpoaaRfQ
import Derived.Test.YtejgpniaoccpoaaNameRef
namespace Go.Proofs.Ytejgpniaoccpoaa
open K
set_option linter.unusedVariables false

theorem rc_byte {r : Rf} (h : r.2.length = 32) {j : Nat} (hj : j < 32) : (rc r)[1 + j]? = some (.int .u8 ((r.2.getD j 0).toNat : Int)) := by
  rw [show 1 + j = j + 1 by omega]
  show (bv r.2).toList[j]? = _
  rw [Array.getElem?_toList]; exact bv_get h hj
theorem nm_at {l : List Rf} (h : ∀ x ∈ l, x.1.size ≤ maxLen) (i : Nat) : (l.getD i rz).1.size ≤ maxLen := by
  rw [List.getD_eq_getElem?_getD]
  by_cases hi : i < l.length
  · rw [List.getElem?_eq_getElem hi]; exact h _ (List.getElem_mem hi)
  · rw [List.getElem?_eq_none (by omega)]; exact Nat.zero_le _

set_option maxRecDepth 100000 in
theorem rHas (la : Option Addr) (cap : Nat) (l : List Rf) (n : ByteArray) (Rl : List (Nat × Obj)) (w : World) (hI : InR Rl la l) (hW : W32 l) (hR : Has w Rl) (hn : l.length ≤ maxLen) :
    Calls Try.prog 71 #[.slice la l.length cap, .string n] w fun e w' => e = .returned (.bool (decide (0 ≤ fidx (pEq n) l))) ∧ Ext [] w w' := by
  unfold maxLen at hn
  refine enter (vs := [.slice la l.length cap, .string n]) [] Rl [] Try.func71 rfl (by kernel_rfl) (HP.ofHas hR) ?_
  refine Cfg.reg rfl [0, 1] [] (Γ' := [(0, [], .slice la l.length cap), (1, [], .string n)]) (nd := (fun _ => [])) (fun _ => by kernel_rfl) trivial ?_
  refine Cfg.reg rfl [1, 7, 8, 9] [] (Γ' := [(9, [], .int .i64 0), (8, [], .int .i64 (l.length : Int)), (7, [], .slice la l.length cap), (1, [], .string n)]) (nd := (fun _ => [])) (fun _ => by kernel_rfl) trivial ?_
  refine Cfg.loop rfl (ι := Nat) (fun (i : Nat) => [(9, [], .int .i64 (i : Int)), (8, [], .int .i64 (l.length : Int)), (7, [], .slice la l.length cap), (1, [], .string n)]) (fun (i : Nat) => []) (fun (i : Nat) => (i ≤ l.length) ∧ (∀ j, j < i → (pEq n) (l.getD j rz) = false)) (fun (i : Nat) => l.length - i) 0 ?_ (Conv.mk (by kernel_rfl)) .slnil ?_
  · exact ⟨Nat.zero_le _, fun j h => absurd h (Nat.not_lt_zero j)⟩
  · rintro i ⟨hi, hall⟩
    refine Cfg.reg rfl [1, 7, 8, 9, 10] [] (Γ' := [(10, [], .bool (decide ((i : Int) < (l.length : Int)))), (9, [], .int .i64 (i : Int)), (8, [], .int .i64 (l.length : Int)), (7, [], .slice la l.length cap), (1, [], .string n)]) (nd := (fun _ => [])) (fun _ => by kernel_rfl) trivial ?_
    refine Cfg.cond rfl (b := (decide ((i : Int) < (l.length : Int)))) (by kernel_rfl) (fun c1r => ?_) (fun c1r => ?_)
    · have c1 : ((i : Int) < (l.length : Int)) := (of_decide_eq_true c1r)
      obtain ⟨sb, off, cs, te, fre, rfl, hmem, hcs⟩ := hI (by omega)
      refine Conv.cfg (Γ' := [(10, [], .bool (decide ((i : Int) < (l.length : Int)))), (9, [], .int .i64 (i : Int)), (8, [], .int .i64 (l.length : Int)), (7, [], .slice (some ⟨sb, off, none⟩) l.length cap), (1, [], .string n)]) (Conv.mk (by kernel_rfl)) ?_
      refine Cfg.begL rfl ?_
      refine CfgL.pure 2 [(0, false, none), (0, false, some (.agg (rc (l.getD i rz)).toArray))] none (Γ' := [(12, [], .agg (rc (l.getD i rz)).toArray), (11, [], .pointer (some ⟨sb, (addO off (i * 33)), none⟩)), (10, [], .bool (decide ((i : Int) < (l.length : Int)))), (9, [], .int .i64 (i : Int)), (8, [], .int .i64 (l.length : Int)), (7, [], .slice (some ⟨sb, off, none⟩) l.length cap), (1, [], .string n)]) (nd := (fun S => [(0 ≤ (i : Int) ∧ (i : Int) < (l.length : Int)), (∀ w1, S w1 → (loadVar 50 ⟨sb, (addO off (i * 33)), none⟩).run Try.prog w1 = .ok (.agg (rc (l.getD i rz)).toArray) w1)])) (by kernel_rfl) (fun _ => by kernel_rfl) ⟨(by omega), (fun w1 h => load_list Try.underlying50 rfl (by kernel_rfl) (rc_len (hW.at i)) (fun j v hj => by rw [addO_eq]; exact (cell_cells (h.ro _ hmem)).trans (ref_cell hW hcs (by omega) hj))), trivial⟩ ?_
      refine CfgL.eff (o := _) rfl (by kernel_rfl) (by kernel_rfl) (Eff.alloc (z := (.agg (rc rz).toArray)) rfl (by kernel_rfl)) ?_
      rintro xb ⟨hxb, nxb⟩
      refine CfgL.eff (o := _) rfl (by kernel_rfl) (by kernel_rfl) (Eff.storeN (b := xb) (off := 0) (vs := (rc (l.getD i rz)).toArray) (n := 33) rfl (by kernel_rfl) (by kernel_rfl) (by kernel_rfl) (by rw [List.size_toArray, rc_len (hW.at i)]) (rc_all _) 0 (cs := (rc rz).toArray) (e := 50) (by kernel_rfl) (by show 0 + 33 ≤ 33; decide)) ?_
      rintro ⟨⟩ -
      refine CfgL.setO (O' := [(xb, .cells ((rc (l.getD i rz)).toArray) 50 (0, 0))]) (congrArg (fun (xq : Array Value) => ([(xb, .cells xq 50 (0, 0))] : List (Nat × Obj))) (spl_all (by rw [List.size_toArray, rc_len (hW.at i)]; rfl))) ?_
      refine CfgL.done rfl ?_
      refine Conv.cfg (Γ' := [(6, [], .pointer (some ⟨xb, 0, none⟩)), (9, [], .int .i64 (i : Int)), (8, [], .int .i64 (l.length : Int)), (7, [], .slice (some ⟨sb, off, none⟩) l.length cap), (1, [], .string n)]) (Conv.mk (by kernel_rfl)) ?_
      refine Cfg.reg rfl [1, 7, 8, 9, 16] [(0, false, none), (0, false, some (.string (l.getD i rz).1))] (Γ' := [(16, [], .bool ((l.getD i rz).1.toList == n.toList)), (9, [], .int .i64 (i : Int)), (8, [], .int .i64 (l.length : Int)), (7, [], .slice (some ⟨sb, off, none⟩) l.length cap), (1, [], .string n)]) (nd := (fun S => [(∀ w1, S w1 → w1.cell? ⟨xb, 0, none⟩ = some (.string (l.getD i rz).1))])) (fun _ => by kernel_rfl) ⟨(fun w1 h => h.ocell 0 rfl rfl), trivial⟩ ?_
      refine Cfg.cond rfl (b := ((l.getD i rz).1.toList == n.toList)) (by kernel_rfl) (fun c2r => ?_) (fun c2r => ?_)
      · have c2 : (((l.getD i rz).1.toList == n.toList) = true) := c2r
        refine Cfg.reg rfl [4] [] (Γ' := [(4, [], .bool true)]) (nd := (fun _ => [])) (fun _ => by kernel_rfl) trivial ?_
        refine Cfg.ret rfl (rs := [.tmp 4]) rfl [.bool true] ⟨by kernel_rfl, trivial⟩ (fun w1 hp => ?_)
        exact ⟨by rw [fidx_at (p := pEq n) (by omega) hall c2, decide_eq_true (by omega)]; rfl, hp.ext⟩
      · have c2 : (((l.getD i rz).1.toList == n.toList) = false) := c2r
        refine Cfg.reg rfl [1, 7, 8, 9] [] (Γ' := [(9, [], .int .i64 ((i : Int) + 1)), (8, [], .int .i64 (l.length : Int)), (7, [], .slice (some ⟨sb, off, none⟩) l.length cap), (1, [], .string n)]) (nd := (fun _ => [((-9223372036854775808 : Int) ≤ ((i : Int) + 1) ∧ ((i : Int) + 1) ≤ 9223372036854775807)])) (fun _ => by kernel_rfl) ⟨(by omega), trivial⟩ ?_
        refine Cfg.again rfl (i + 1) ⟨by omega, fun j hj => by rcases Nat.lt_or_ge j i with h1 | h1; exact hall j h1; rw [show j = i by omega]; exact c2⟩ (by omega) (Conv.mk (by kernel_rfl)) (.cons _ .slnil)
    · have c1 : (¬ ((i : Int) < (l.length : Int))) := (of_decide_eq_false c1r)
      refine Cfg.reg rfl [4] [] (Γ' := [(4, [], .bool false)]) (nd := (fun _ => [])) (fun _ => by kernel_rfl) trivial ?_
      refine Cfg.ret rfl (rs := [.tmp 4]) rfl [.bool false] ⟨by kernel_rfl, trivial⟩ (fun w1 hp => ?_)
      exact ⟨by rw [fidx_none (p := pEq n) (fun j hj => hall j (by omega))]; rfl, hp.ext⟩

set_option maxRecDepth 100000 in
theorem rChk (la lo : Option Addr) (cap co : Nat) (l o : List Rf) (Rl : List (Nat × Obj)) (w : World) (hI : InR Rl la l) (hJ : InR Rl lo o) (hW : W32 l) (hV : W32 o) (hR : Has w Rl) (hn : l.length ≤ maxLen) (hm : o.length ≤ maxLen) (hz : ∀ x ∈ l, x.1.size ≤ maxLen) :
    Calls Try.prog 36 #[.slice la l.length cap, .slice lo o.length co] w fun e w' => e = .returned (.int .i64 (chkF l o)) ∧ Ext [] w w' := by
  have hml : maxLen = 9223372036854775807 := rfl
  rw [hml] at hn
  refine enter (vs := [.slice la l.length cap, .slice lo o.length co]) [] Rl [] Try.func36 rfl (by kernel_rfl) (HP.ofHas hR) ?_
  refine Cfg.reg rfl [0, 1] [] (Γ' := [(0, [], .slice la l.length cap), (1, [], .slice lo o.length co)]) (nd := (fun _ => [])) (fun _ => by kernel_rfl) trivial ?_
  refine Cfg.reg rfl [0, 1, 9] [] (Γ' := [(9, [], .bool (decide ((l.length : Int) > (16 : Int)))), (0, [], .slice la l.length cap), (1, [], .slice lo o.length co)]) (nd := (fun _ => [])) (fun _ => by kernel_rfl) trivial ?_
  refine Cfg.cond rfl (b := (decide ((l.length : Int) > (16 : Int)))) (by kernel_rfl) (fun c1r => ?_) (fun c1r => ?_)
  · have c1 : ((l.length : Int) > (16 : Int)) := (of_decide_eq_true c1r)
    refine Cfg.reg rfl [4] [] (Γ' := [(4, [], .int .i64 6)]) (nd := (fun _ => [])) (fun _ => by kernel_rfl) trivial ?_
    refine Cfg.ret rfl (rs := [.tmp 4]) rfl [.int .i64 6] ⟨by kernel_rfl, trivial⟩ (fun w1 hp => ?_)
    exact ⟨by rw [show chkF l o = 6 from if_pos (by omega)]; rfl, hp.ext⟩
  · have c1 : (¬ ((l.length : Int) > (16 : Int))) := (of_decide_eq_false c1r)
    refine Cfg.reg rfl [0, 1, 10, 11, 12] [] (Γ' := [(12, [], .int .i64 0), (11, [], .int .i64 (l.length : Int)), (10, [], .slice la l.length cap), (0, [], .slice la l.length cap), (1, [], .slice lo o.length co)]) (nd := (fun _ => [])) (fun _ => by kernel_rfl) trivial ?_
    refine Cfg.loop rfl (ι := Nat) (fun (i : Nat) => [(12, [], .int .i64 (i : Int)), (11, [], .int .i64 (l.length : Int)), (10, [], .slice la l.length cap), (0, [], .slice la l.length cap), (1, [], .slice lo o.length co)]) (fun (i : Nat) => []) (fun (i : Nat) => (i ≤ l.length) ∧ (chkR l o (l.length - i) i = chkR l o l.length 0)) (fun (i : Nat) => l.length - i) 0 ?_ (Conv.mk (by kernel_rfl)) .slnil ?_
    · exact ⟨Nat.zero_le _, by rw [Nat.sub_zero]⟩
    · rintro i ⟨hi, hinv⟩
      refine Cfg.reg rfl [0, 1, 10, 11, 12, 13] [] (Γ' := [(13, [], .bool (decide ((i : Int) < (l.length : Int)))), (12, [], .int .i64 (i : Int)), (11, [], .int .i64 (l.length : Int)), (10, [], .slice la l.length cap), (0, [], .slice la l.length cap), (1, [], .slice lo o.length co)]) (nd := (fun _ => [])) (fun _ => by kernel_rfl) trivial ?_
      refine Cfg.cond rfl (b := (decide ((i : Int) < (l.length : Int)))) (by kernel_rfl) (fun c2r => ?_) (fun c2r => ?_)
      · have c2 : ((i : Int) < (l.length : Int)) := (of_decide_eq_true c2r)
        obtain ⟨sb, off, cs, te, fre, rfl, hmem, hcs⟩ := hI (by omega)
        refine Conv.cfg (Γ' := [(13, [], .bool (decide ((i : Int) < (l.length : Int)))), (12, [], .int .i64 (i : Int)), (11, [], .int .i64 (l.length : Int)), (10, [], .slice (some ⟨sb, off, none⟩) l.length cap), (0, [], .slice (some ⟨sb, off, none⟩) l.length cap), (1, [], .slice lo o.length co)]) (Conv.mk (by kernel_rfl)) ?_
        refine Cfg.begL rfl ?_
        refine CfgL.pure 3 [(0, false, none), (0, false, none), (0, false, some (.agg (rc (l.getD i rz)).toArray))] none (Γ' := [(16, [], .agg (rc (l.getD i rz)).toArray), (15, [], .pointer (some ⟨sb, (addO off (i * 33)), none⟩)), (14, [], .int .i64 (i : Int)), (13, [], .bool (decide ((i : Int) < (l.length : Int)))), (12, [], .int .i64 (i : Int)), (11, [], .int .i64 (l.length : Int)), (10, [], .slice (some ⟨sb, off, none⟩) l.length cap), (0, [], .slice (some ⟨sb, off, none⟩) l.length cap), (1, [], .slice lo o.length co)]) (nd := (fun S => [(0 ≤ (i : Int) ∧ (i : Int) < (l.length : Int)), (∀ w1, S w1 → (loadVar 50 ⟨sb, (addO off (i * 33)), none⟩).run Try.prog w1 = .ok (.agg (rc (l.getD i rz)).toArray) w1)])) (by kernel_rfl) (fun _ => by kernel_rfl) ⟨(by omega), (fun w1 h => load_list Try.underlying50 rfl (by kernel_rfl) (rc_len (hW.at i)) (fun j v hj => by rw [addO_eq]; exact (cell_cells (h.ro _ hmem)).trans (ref_cell hW hcs (by omega) hj))), trivial⟩ ?_
        refine CfgL.eff (o := _) rfl (by kernel_rfl) (by kernel_rfl) (Eff.alloc (z := (.agg (rc rz).toArray)) rfl (by kernel_rfl)) ?_
        rintro xb ⟨hxb, nxb⟩
        refine CfgL.pure 1 [] none (Γ' := [(5, [], .int .i64 (i : Int)), (6, [], .pointer (some ⟨xb, 0, none⟩)), (16, [], .agg (rc (l.getD i rz)).toArray), (15, [], .pointer (some ⟨sb, (addO off (i * 33)), none⟩)), (14, [], .int .i64 (i : Int)), (13, [], .bool (decide ((i : Int) < (l.length : Int)))), (12, [], .int .i64 (i : Int)), (11, [], .int .i64 (l.length : Int)), (10, [], .slice (some ⟨sb, off, none⟩) l.length cap), (0, [], .slice (some ⟨sb, off, none⟩) l.length cap), (1, [], .slice lo o.length co)]) (nd := (fun _ => [])) (by kernel_rfl) (fun _ => by kernel_rfl) trivial ?_
        refine CfgL.eff (o := _) rfl (by kernel_rfl) (by kernel_rfl) (Eff.storeN (b := xb) (off := 0) (vs := (rc (l.getD i rz)).toArray) (n := 33) rfl (by kernel_rfl) (by kernel_rfl) (by kernel_rfl) (by rw [List.size_toArray, rc_len (hW.at i)]) (rc_all _) 0 (cs := (rc rz).toArray) (e := 50) (by kernel_rfl) (by show 0 + 33 ≤ 33; decide)) ?_
        rintro ⟨⟩ -
        refine CfgL.setO (O' := [(xb, .cells ((rc (l.getD i rz)).toArray) 50 (0, 0))]) (congrArg (fun (xq : Array Value) => ([(xb, .cells xq 50 (0, 0))] : List (Nat × Obj))) (spl_all (by rw [List.size_toArray, rc_len (hW.at i)]; rfl))) ?_
        refine CfgL.done rfl ?_
        refine Conv.cfg (Γ' := [(5, [], .int .i64 (i : Int)), (6, [], .pointer (some ⟨xb, 0, none⟩)), (12, [], .int .i64 (i : Int)), (11, [], .int .i64 (l.length : Int)), (10, [], .slice (some ⟨sb, off, none⟩) l.length cap), (0, [], .slice (some ⟨sb, off, none⟩) l.length cap), (1, [], .slice lo o.length co)]) (Conv.mk (by kernel_rfl)) ?_
        refine Cfg.begL rfl ?_
        refine CfgL.pure 2 [(0, false, none), (0, false, some (.string (l.getD i rz).1))] none (Γ' := [(19, [], .string (l.getD i rz).1), (18, [], .pointer (some ⟨xb, 0, none⟩)), (5, [], .int .i64 (i : Int)), (6, [], .pointer (some ⟨xb, 0, none⟩)), (12, [], .int .i64 (i : Int)), (11, [], .int .i64 (l.length : Int)), (10, [], .slice (some ⟨sb, off, none⟩) l.length cap), (0, [], .slice (some ⟨sb, off, none⟩) l.length cap), (1, [], .slice lo o.length co)]) (nd := (fun S => [(∀ w1, S w1 → w1.cell? ⟨xb, 0, none⟩ = some (.string (l.getD i rz).1))])) (by kernel_rfl) (fun _ => by kernel_rfl) ⟨(fun w1 h => h.ocell 0 rfl rfl), trivial⟩ ?_
        refine CfgL.eff (o := _) rfl (by kernel_rfl) (by kernel_rfl) (Eff.callA (vs := [.string (l.getD i rz).1]) (.bool (refB (l.getD i rz).1)) rfl Try.func35 rfl rfl (by kernel_rfl) (fun w1 _ => nameRef (l.getD i rz).1 w1 (nm_at hz i))) ?_
        rintro ⟨⟩ -
        refine CfgL.pure 2 [] (some [0, 1, 5, 6, 10, 11, 12, 17]) (Γ' := [(17, [], .bool (!(refB (l.getD i rz).1))), (5, [], .int .i64 (i : Int)), (6, [], .pointer (some ⟨xb, 0, none⟩)), (12, [], .int .i64 (i : Int)), (11, [], .int .i64 (l.length : Int)), (10, [], .slice (some ⟨sb, off, none⟩) l.length cap), (0, [], .slice (some ⟨sb, off, none⟩) l.length cap), (1, [], .slice lo o.length co)]) (nd := (fun _ => [])) (by kernel_rfl) (fun _ => by kernel_rfl) trivial ?_
        refine CfgL.done rfl ?_
        refine Cfg.cond rfl (b := (!(refB (l.getD i rz).1))) (by kernel_rfl) (fun c3r => ?_) (fun c3r => ?_)
        · have c3 : ((refB (l.getD i rz).1) = false) := (notT c3r)
          have h3 : refB (l.getD i rz).1 = false := by simpa using c3r
          refine Cfg.reg rfl [4] [] (Γ' := [(4, [], .int .i64 12)]) (nd := (fun _ => [])) (fun _ => by kernel_rfl) trivial ?_
          refine Cfg.ret rfl (rs := [.tmp 4]) rfl [.int .i64 12] ⟨by kernel_rfl, trivial⟩ (fun w1 hp => ?_)
          have hv : chkAt l o i = 12 := by
            unfold chkAt
            rw [if_pos h3]
          exact ⟨by rw [chkF_stop (by omega) hinv (by omega) hv (by decide)]; rfl, hp.ext⟩
        · have c3 : ((refB (l.getD i rz).1) = true) := (notF c3r)
          have h3 : refB (l.getD i rz).1 = true := by simpa using c3r
          refine Cfg.regD rfl (by kernel_rfl) [0, 1, 6, 10, 11, 12, 22] [(0, false, none), (0, false, none), (0, false, none), (0, false, none), (0, false, some (.string (l.getD i rz).1)), (0, false, none), (0, false, none), (0, false, none), (0, false, none), (0, false, none), (0, false, some (.string (l.getD ((i : Int) - 1).toNat rz).1))] (Γ' := [(22, [], .bool ((decide ((i : Int) > (0 : Int))) && ((Op.bytesLess (l.getD i rz).1.toList (l.getD ((i : Int) - 1).toNat rz).1.toList) || ((l.getD i rz).1.toList == (l.getD ((i : Int) - 1).toNat rz).1.toList)))), (6, [], .pointer (some ⟨xb, 0, none⟩)), (12, [], .int .i64 (i : Int)), (11, [], .int .i64 (l.length : Int)), (10, [], .slice (some ⟨sb, off, none⟩) l.length cap), (0, [], .slice (some ⟨sb, off, none⟩) l.length cap), (1, [], .slice lo o.length co)]) (nd := (fun S => [((.bool (decide ((i : Int) > (0 : Int))) : Value) = .bool true → (∀ w1, S w1 → w1.cell? ⟨xb, 0, none⟩ = some (.string (l.getD i rz).1))), ((.bool (decide ((i : Int) > (0 : Int))) : Value) = .bool true → ((-9223372036854775808 : Int) ≤ ((i : Int) - 1) ∧ ((i : Int) - 1) ≤ 9223372036854775807)), ((.bool (decide ((i : Int) > (0 : Int))) : Value) = .bool true → (0 ≤ ((i : Int) - 1) ∧ ((i : Int) - 1) < (l.length : Int))), ((.bool (decide ((i : Int) > (0 : Int))) : Value) = .bool true → (∀ w1, S w1 → w1.cell? ⟨sb, (addO off ((((i : Int) - 1)).toNat * 33)), none⟩ = some (.string (l.getD ((i : Int) - 1).toNat rz).1)))])) (by kernel_rfl) (by kernel_rfl) (fun _ => by kernel_rfl) ⟨(fun g0 => have q0 : ((i : Int) > (0 : Int)) := (of_decide_eq_true (boolV g0)); (fun w1 h => h.ocell 0 rfl rfl)), (fun g0 => have q0 : ((i : Int) > (0 : Int)) := (of_decide_eq_true (boolV g0)); (by omega)), (fun g0 => have q0 : ((i : Int) > (0 : Int)) := (of_decide_eq_true (boolV g0)); (by omega)), (fun g0 => have q0 : ((i : Int) > (0 : Int)) := (of_decide_eq_true (boolV g0)); (fun w1 h => by rw [addO_eq]; exact (cell_cells (h.ro _ hmem)).trans (ref_cell (j := 0) hW hcs (by omega) rfl))), trivial⟩ ?_
          refine Cfg.cond rfl (b := ((decide ((i : Int) > (0 : Int))) && ((Op.bytesLess (l.getD i rz).1.toList (l.getD ((i : Int) - 1).toNat rz).1.toList) || ((l.getD i rz).1.toList == (l.getD ((i : Int) - 1).toNat rz).1.toList)))) (by kernel_rfl) (fun c4r => ?_) (fun c4r => ?_)
          · have c4 : (((i : Int) > (0 : Int)) ∧ (((Op.bytesLess (l.getD i rz).1.toList (l.getD ((i : Int) - 1).toNat rz).1.toList) || ((l.getD i rz).1.toList == (l.getD ((i : Int) - 1).toNat rz).1.toList)) = true)) := ⟨(of_decide_eq_true (andT1 c4r)), (andT2 c4r)⟩
            refine Cfg.reg rfl [4] [] (Γ' := [(4, [], .int .i64 19)]) (nd := (fun _ => [])) (fun _ => by kernel_rfl) trivial ?_
            refine Cfg.ret rfl (rs := [.tmp 4]) rfl [.int .i64 19] ⟨by kernel_rfl, trivial⟩ (fun w1 hp => ?_)
            have hv : chkAt l o i = 19 := by
              unfold chkAt
              rw [if_neg (by rw [h3]; decide), if_pos c4r]
            exact ⟨by rw [chkF_stop (by omega) hinv (by omega) hv (by decide)]; rfl, hp.ext⟩
          · have c4 : ((¬ ((i : Int) > (0 : Int))) ∨ (((Op.bytesLess (l.getD i rz).1.toList (l.getD ((i : Int) - 1).toNat rz).1.toList) || ((l.getD i rz).1.toList == (l.getD ((i : Int) - 1).toNat rz).1.toList)) = false)) := ((andF c4r).elim (fun h => Or.inl (of_decide_eq_false h)) (fun h => Or.inr h))
            refine Cfg.reg rfl [0, 1, 6, 10, 11, 12, 36] [(0, false, none), (0, false, some (.agg (bv (l.getD i rz).2))), (0, false, some (.agg (bv (List.replicate 32 0)))), (0, false, some (.bool ((l.getD i rz).2 == (List.replicate 32 0))))] (Γ' := [(36, [], .bool ((l.getD i rz).2 == (List.replicate 32 0))), (6, [], .pointer (some ⟨xb, 0, none⟩)), (12, [], .int .i64 (i : Int)), (11, [], .int .i64 (l.length : Int)), (10, [], .slice (some ⟨sb, off, none⟩) l.length cap), (0, [], .slice (some ⟨sb, off, none⟩) l.length cap), (1, [], .slice lo o.length co)]) (nd := (fun S => [(∀ w1, S w1 → (loadVar 45 ⟨xb, 1, none⟩).run Try.prog w1 = .ok (.agg (bv (l.getD i rz).2)) w1), (∀ w1, S w1 → (Instr.build 45 #[]).run Try.prog w1 = .ok (.agg (bv (List.replicate 32 0))) w1), (∀ w1, S w1 → (Op.equal 45 (.agg (bv (l.getD i rz).2)) (.agg (bv (List.replicate 32 0)))).run Try.prog w1 = .ok ((l.getD i rz).2 == (List.replicate 32 0)) w1)])) (fun _ => by kernel_rfl) ⟨(fun w1 h => load_bytes Try.underlying45 rfl (by kernel_rfl) (hW.at i) (fun j hj => by rw [cell_cells (h.own (xb, _) (List.mem_of_getElem? (i := 0) rfl)), List.getElem?_toArray]; exact rc_byte (hW.at i) hj)), (fun _ _ => by kernel_rfl), (fun _ _ => equal_bv Try.underlying45 Try.underlying5 (by kernel_rfl) (hW.at _) rfl), trivial⟩ ?_
            refine Cfg.cond rfl (b := ((l.getD i rz).2 == (List.replicate 32 0))) (by kernel_rfl) (fun c5r => ?_) (fun c5r => ?_)
            · have c5 : (((l.getD i rz).2 == (List.replicate 32 0)) = true) := c5r
              refine Cfg.reg rfl [4] [] (Γ' := [(4, [], .int .i64 2)]) (nd := (fun _ => [])) (fun _ => by kernel_rfl) trivial ?_
              refine Cfg.ret rfl (rs := [.tmp 4]) rfl [.int .i64 2] ⟨by kernel_rfl, trivial⟩ (fun w1 hp => ?_)
              have hv : chkAt l o i = 2 := by
                unfold chkAt
                rw [if_neg (by rw [h3]; decide), if_neg (by rw [c4r]; decide), if_pos c5r]
              exact ⟨by rw [chkF_stop (by omega) hinv (by omega) hv (by decide)]; rfl, hp.ext⟩
            · have c5 : (((l.getD i rz).2 == (List.replicate 32 0)) = false) := c5r
              refine Cfg.begL rfl ?_
              refine CfgL.pure 3 [(0, false, none), (0, false, none), (0, false, some (.string (l.getD i rz).1))] none (Γ' := [(44, [], .string (l.getD i rz).1), (43, [], .pointer (some ⟨xb, 0, none⟩)), (42, [], .slice lo o.length co), (36, [], .bool ((l.getD i rz).2 == (List.replicate 32 0))), (6, [], .pointer (some ⟨xb, 0, none⟩)), (12, [], .int .i64 (i : Int)), (11, [], .int .i64 (l.length : Int)), (10, [], .slice (some ⟨sb, off, none⟩) l.length cap), (0, [], .slice (some ⟨sb, off, none⟩) l.length cap), (1, [], .slice lo o.length co)]) (nd := (fun S => [(∀ w1, S w1 → w1.cell? ⟨xb, 0, none⟩ = some (.string (l.getD i rz).1))])) (by kernel_rfl) (fun _ => by kernel_rfl) ⟨(fun w1 h => h.ocell 0 rfl rfl), trivial⟩ ?_
              refine CfgL.eff (o := _) rfl (by kernel_rfl) (by kernel_rfl) (Eff.callA (vs := [.slice lo o.length co, .string (l.getD i rz).1]) (.int .i64 (fidx (pEq (l.getD i rz).1) o)) rfl Try.func39 rfl rfl (by kernel_rfl) (fun w1 h => rPlace lo co o (l.getD i rz).1 Rl w1 hJ hV (h.hasR (fun e he => he)) hm)) ?_
              rintro ⟨⟩ -
              refine CfgL.pure 2 [] (some [0, 1, 10, 11, 12, 41]) (Γ' := [(41, [], .bool (decide ((fidx (pEq (l.getD i rz).1) o) ≥ (0 : Int)))), (12, [], .int .i64 (i : Int)), (11, [], .int .i64 (l.length : Int)), (10, [], .slice (some ⟨sb, off, none⟩) l.length cap), (0, [], .slice (some ⟨sb, off, none⟩) l.length cap), (1, [], .slice lo o.length co)]) (nd := (fun _ => [])) (by kernel_rfl) (fun _ => by kernel_rfl) trivial ?_
              refine CfgL.done rfl ?_
              refine Cfg.cond rfl (b := (decide ((fidx (pEq (l.getD i rz).1) o) ≥ (0 : Int)))) (by kernel_rfl) (fun c6r => ?_) (fun c6r => ?_)
              · have c6 : ((fidx (pEq (l.getD i rz).1) o) ≥ (0 : Int)) := (of_decide_eq_true c6r)
                refine Cfg.reg rfl [4] [] (Γ' := [(4, [], .int .i64 17)]) (nd := (fun _ => [])) (fun _ => by kernel_rfl) trivial ?_
                refine Cfg.ret rfl (rs := [.tmp 4]) rfl [.int .i64 17] ⟨by kernel_rfl, trivial⟩ (fun w1 hp => ?_)
                have hv : chkAt l o i = 17 := by
                  unfold chkAt
                  rw [if_neg (by rw [h3]; decide), if_neg (by rw [c4r]; decide), if_neg (by rw [c5r]; decide), if_pos (by omega)]
                exact ⟨by rw [chkF_stop (by omega) hinv (by omega) hv (by decide)]; rfl, hp.ext⟩
              · have c6 : (¬ ((fidx (pEq (l.getD i rz).1) o) ≥ (0 : Int))) := (of_decide_eq_false c6r)
                refine Cfg.reg rfl [0, 1, 10, 11, 12] [] (Γ' := [(12, [], .int .i64 ((i : Int) + 1)), (11, [], .int .i64 (l.length : Int)), (10, [], .slice (some ⟨sb, off, none⟩) l.length cap), (0, [], .slice (some ⟨sb, off, none⟩) l.length cap), (1, [], .slice lo o.length co)]) (nd := (fun _ => [((-9223372036854775808 : Int) ≤ ((i : Int) + 1) ∧ ((i : Int) + 1) ≤ 9223372036854775807)])) (fun _ => by kernel_rfl) ⟨(by omega), trivial⟩ ?_
                have hv : chkAt l o i = 0 := by
                  unfold chkAt
                  rw [if_neg (by rw [h3]; decide), if_neg (by rw [c4r]; decide), if_neg (by rw [c5r]; decide), if_neg (by omega)]
                refine Cfg.again rfl (i + 1) ⟨by omega, by rw [← chkR_next (by omega) hv]; exact hinv⟩ (by show l.length - (i + 1) < l.length - i; omega) (Conv.mk (by kernel_rfl)) (.cons _ .slnil)
      · have c2 : (¬ ((i : Int) < (l.length : Int))) := (of_decide_eq_false c2r)
        refine Cfg.reg rfl [4] [] (Γ' := [(4, [], .int .i64 0)]) (nd := (fun _ => [])) (fun _ => by kernel_rfl) trivial ?_
        refine Cfg.ret rfl (rs := [.tmp 4]) rfl [.int .i64 0] ⟨by kernel_rfl, trivial⟩ (fun w1 hp => ?_)
        exact ⟨by rw [chkF_done (by omega) hinv (by omega)]; rfl, hp.ext⟩

set_option maxRecDepth 100000 in
theorem refChk (la lo : Option Addr) (cap co : Nat) (l o : List Rf) (Rl : List (Nat × Obj)) (w : World) (hI : InR Rl la l) (hJ : InR Rl lo o) (hW : W32 l) (hV : W32 o) (hR : Has w Rl) (hn : l.length ≤ maxLen) (hm : o.length ≤ maxLen) (hz : ∀ x ∈ l, x.1.size ≤ maxLen) :
    Calls Try.prog 51 #[.slice la l.length cap, .slice lo o.length co] w fun e w' => e = .returned (.int .i64 (chkF l o)) ∧ Ext [] w w' := by
  have hml : maxLen = 9223372036854775807 := rfl
  rw [hml] at hn
  refine enter (vs := [.slice la l.length cap, .slice lo o.length co]) [] Rl [] Try.func51 rfl (by kernel_rfl) (HP.ofHas hR) ?_
  refine Cfg.reg rfl [0, 1] [] (Γ' := [(0, [], .slice la l.length cap), (1, [], .slice lo o.length co)]) (nd := (fun _ => [])) (fun _ => by kernel_rfl) trivial ?_
  refine Cfg.reg rfl [0, 1, 9] [] (Γ' := [(9, [], .bool (decide ((l.length : Int) > (16 : Int)))), (0, [], .slice la l.length cap), (1, [], .slice lo o.length co)]) (nd := (fun _ => [])) (fun _ => by kernel_rfl) trivial ?_
  refine Cfg.cond rfl (b := (decide ((l.length : Int) > (16 : Int)))) (by kernel_rfl) (fun c1r => ?_) (fun c1r => ?_)
  · have c1 : ((l.length : Int) > (16 : Int)) := (of_decide_eq_true c1r)
    refine Cfg.reg rfl [4] [] (Γ' := [(4, [], .int .i64 6)]) (nd := (fun _ => [])) (fun _ => by kernel_rfl) trivial ?_
    refine Cfg.ret rfl (rs := [.tmp 4]) rfl [.int .i64 6] ⟨by kernel_rfl, trivial⟩ (fun w1 hp => ?_)
    exact ⟨by rw [show chkF l o = 6 from if_pos (by omega)]; rfl, hp.ext⟩
  · have c1 : (¬ ((l.length : Int) > (16 : Int))) := (of_decide_eq_false c1r)
    refine Cfg.reg rfl [0, 1, 10, 11, 12] [] (Γ' := [(12, [], .int .i64 0), (11, [], .int .i64 (l.length : Int)), (10, [], .slice la l.length cap), (0, [], .slice la l.length cap), (1, [], .slice lo o.length co)]) (nd := (fun _ => [])) (fun _ => by kernel_rfl) trivial ?_
    refine Cfg.loop rfl (ι := Nat) (fun (i : Nat) => [(12, [], .int .i64 (i : Int)), (11, [], .int .i64 (l.length : Int)), (10, [], .slice la l.length cap), (0, [], .slice la l.length cap), (1, [], .slice lo o.length co)]) (fun (i : Nat) => []) (fun (i : Nat) => (i ≤ l.length) ∧ (chkR l o (l.length - i) i = chkR l o l.length 0)) (fun (i : Nat) => l.length - i) 0 ?_ (Conv.mk (by kernel_rfl)) .slnil ?_
    · exact ⟨Nat.zero_le _, by rw [Nat.sub_zero]⟩
    · rintro i ⟨hi, hinv⟩
      refine Cfg.reg rfl [0, 1, 10, 11, 12, 13] [] (Γ' := [(13, [], .bool (decide ((i : Int) < (l.length : Int)))), (12, [], .int .i64 (i : Int)), (11, [], .int .i64 (l.length : Int)), (10, [], .slice la l.length cap), (0, [], .slice la l.length cap), (1, [], .slice lo o.length co)]) (nd := (fun _ => [])) (fun _ => by kernel_rfl) trivial ?_
      refine Cfg.cond rfl (b := (decide ((i : Int) < (l.length : Int)))) (by kernel_rfl) (fun c2r => ?_) (fun c2r => ?_)
      · have c2 : ((i : Int) < (l.length : Int)) := (of_decide_eq_true c2r)
        obtain ⟨sb, off, cs, te, fre, rfl, hmem, hcs⟩ := hI (by omega)
        refine Conv.cfg (Γ' := [(13, [], .bool (decide ((i : Int) < (l.length : Int)))), (12, [], .int .i64 (i : Int)), (11, [], .int .i64 (l.length : Int)), (10, [], .slice (some ⟨sb, off, none⟩) l.length cap), (0, [], .slice (some ⟨sb, off, none⟩) l.length cap), (1, [], .slice lo o.length co)]) (Conv.mk (by kernel_rfl)) ?_
        refine Cfg.begL rfl ?_
        refine CfgL.pure 3 [(0, false, none), (0, false, none), (0, false, some (.agg (rc (l.getD i rz)).toArray))] none (Γ' := [(16, [], .agg (rc (l.getD i rz)).toArray), (15, [], .pointer (some ⟨sb, (addO off (i * 33)), none⟩)), (14, [], .int .i64 (i : Int)), (13, [], .bool (decide ((i : Int) < (l.length : Int)))), (12, [], .int .i64 (i : Int)), (11, [], .int .i64 (l.length : Int)), (10, [], .slice (some ⟨sb, off, none⟩) l.length cap), (0, [], .slice (some ⟨sb, off, none⟩) l.length cap), (1, [], .slice lo o.length co)]) (nd := (fun S => [(0 ≤ (i : Int) ∧ (i : Int) < (l.length : Int)), (∀ w1, S w1 → (loadVar 50 ⟨sb, (addO off (i * 33)), none⟩).run Try.prog w1 = .ok (.agg (rc (l.getD i rz)).toArray) w1)])) (by kernel_rfl) (fun _ => by kernel_rfl) ⟨(by omega), (fun w1 h => load_list Try.underlying50 rfl (by kernel_rfl) (rc_len (hW.at i)) (fun j v hj => by rw [addO_eq]; exact (cell_cells (h.ro _ hmem)).trans (ref_cell hW hcs (by omega) hj))), trivial⟩ ?_
        refine CfgL.eff (o := _) rfl (by kernel_rfl) (by kernel_rfl) (Eff.alloc (z := (.agg (rc rz).toArray)) rfl (by kernel_rfl)) ?_
        rintro xb ⟨hxb, nxb⟩
        refine CfgL.pure 1 [] none (Γ' := [(5, [], .int .i64 (i : Int)), (6, [], .pointer (some ⟨xb, 0, none⟩)), (16, [], .agg (rc (l.getD i rz)).toArray), (15, [], .pointer (some ⟨sb, (addO off (i * 33)), none⟩)), (14, [], .int .i64 (i : Int)), (13, [], .bool (decide ((i : Int) < (l.length : Int)))), (12, [], .int .i64 (i : Int)), (11, [], .int .i64 (l.length : Int)), (10, [], .slice (some ⟨sb, off, none⟩) l.length cap), (0, [], .slice (some ⟨sb, off, none⟩) l.length cap), (1, [], .slice lo o.length co)]) (nd := (fun _ => [])) (by kernel_rfl) (fun _ => by kernel_rfl) trivial ?_
        refine CfgL.eff (o := _) rfl (by kernel_rfl) (by kernel_rfl) (Eff.storeN (b := xb) (off := 0) (vs := (rc (l.getD i rz)).toArray) (n := 33) rfl (by kernel_rfl) (by kernel_rfl) (by kernel_rfl) (by rw [List.size_toArray, rc_len (hW.at i)]) (rc_all _) 0 (cs := (rc rz).toArray) (e := 50) (by kernel_rfl) (by show 0 + 33 ≤ 33; decide)) ?_
        rintro ⟨⟩ -
        refine CfgL.setO (O' := [(xb, .cells ((rc (l.getD i rz)).toArray) 50 (0, 0))]) (congrArg (fun (xq : Array Value) => ([(xb, .cells xq 50 (0, 0))] : List (Nat × Obj))) (spl_all (by rw [List.size_toArray, rc_len (hW.at i)]; rfl))) ?_
        refine CfgL.done rfl ?_
        refine Conv.cfg (Γ' := [(5, [], .int .i64 (i : Int)), (6, [], .pointer (some ⟨xb, 0, none⟩)), (12, [], .int .i64 (i : Int)), (11, [], .int .i64 (l.length : Int)), (10, [], .slice (some ⟨sb, off, none⟩) l.length cap), (0, [], .slice (some ⟨sb, off, none⟩) l.length cap), (1, [], .slice lo o.length co)]) (Conv.mk (by kernel_rfl)) ?_
        refine Cfg.begL rfl ?_
        refine CfgL.pure 2 [(0, false, none), (0, false, some (.string (l.getD i rz).1))] none (Γ' := [(18, [], .string (l.getD i rz).1), (17, [], .pointer (some ⟨xb, 0, none⟩)), (5, [], .int .i64 (i : Int)), (6, [], .pointer (some ⟨xb, 0, none⟩)), (12, [], .int .i64 (i : Int)), (11, [], .int .i64 (l.length : Int)), (10, [], .slice (some ⟨sb, off, none⟩) l.length cap), (0, [], .slice (some ⟨sb, off, none⟩) l.length cap), (1, [], .slice lo o.length co)]) (nd := (fun S => [(∀ w1, S w1 → w1.cell? ⟨xb, 0, none⟩ = some (.string (l.getD i rz).1))])) (by kernel_rfl) (fun _ => by kernel_rfl) ⟨(fun w1 h => h.ocell 0 rfl rfl), trivial⟩ ?_
        refine CfgL.eff (o := _) rfl (by kernel_rfl) (by kernel_rfl) (Eff.callA (vs := [.string (l.getD i rz).1]) (.bool (refB (l.getD i rz).1)) rfl Try.func50 rfl rfl (by kernel_rfl) (fun w1 _ => refRef (l.getD i rz).1 w1 (nm_at hz i))) ?_
        rintro ⟨⟩ -
        refine CfgL.pure 1 [] (some [0, 1, 5, 6, 10, 11, 12, 20]) (Γ' := [(20, [], .bool (!(refB (l.getD i rz).1))), (5, [], .int .i64 (i : Int)), (6, [], .pointer (some ⟨xb, 0, none⟩)), (12, [], .int .i64 (i : Int)), (11, [], .int .i64 (l.length : Int)), (10, [], .slice (some ⟨sb, off, none⟩) l.length cap), (0, [], .slice (some ⟨sb, off, none⟩) l.length cap), (1, [], .slice lo o.length co)]) (nd := (fun _ => [])) (by kernel_rfl) (fun _ => by kernel_rfl) trivial ?_
        refine CfgL.done rfl ?_
        refine Cfg.cond rfl (b := (!(refB (l.getD i rz).1))) (by kernel_rfl) (fun c3r => ?_) (fun c3r => ?_)
        · have c3 : ((refB (l.getD i rz).1) = false) := (notT c3r)
          have h3 : refB (l.getD i rz).1 = false := by simpa using c3r
          refine Cfg.reg rfl [4] [] (Γ' := [(4, [], .int .i64 12)]) (nd := (fun _ => [])) (fun _ => by kernel_rfl) trivial ?_
          refine Cfg.ret rfl (rs := [.tmp 4]) rfl [.int .i64 12] ⟨by kernel_rfl, trivial⟩ (fun w1 hp => ?_)
          have hv : chkAt l o i = 12 := by
            unfold chkAt
            rw [if_pos h3]
          exact ⟨by rw [chkF_stop (by omega) hinv (by omega) hv (by decide)]; rfl, hp.ext⟩
        · have c3 : ((refB (l.getD i rz).1) = true) := (notF c3r)
          have h3 : refB (l.getD i rz).1 = true := by simpa using c3r
          refine Cfg.regD rfl (by kernel_rfl) [0, 1, 6, 10, 11, 12, 33] [(0, false, none), (0, false, none), (0, false, none), (0, false, none), (0, false, some (.string (l.getD i rz).1)), (0, false, none), (0, false, none), (0, false, none), (0, false, none), (0, false, none), (0, false, some (.string (l.getD ((i : Int) - 1).toNat rz).1))] (Γ' := [(33, [], .bool ((decide ((i : Int) > (0 : Int))) && ((Op.bytesLess (l.getD i rz).1.toList (l.getD ((i : Int) - 1).toNat rz).1.toList) || ((l.getD i rz).1.toList == (l.getD ((i : Int) - 1).toNat rz).1.toList)))), (6, [], .pointer (some ⟨xb, 0, none⟩)), (12, [], .int .i64 (i : Int)), (11, [], .int .i64 (l.length : Int)), (10, [], .slice (some ⟨sb, off, none⟩) l.length cap), (0, [], .slice (some ⟨sb, off, none⟩) l.length cap), (1, [], .slice lo o.length co)]) (nd := (fun S => [((.bool (decide ((i : Int) > (0 : Int))) : Value) = .bool true → (∀ w1, S w1 → w1.cell? ⟨xb, 0, none⟩ = some (.string (l.getD i rz).1))), ((.bool (decide ((i : Int) > (0 : Int))) : Value) = .bool true → ((-9223372036854775808 : Int) ≤ ((i : Int) - 1) ∧ ((i : Int) - 1) ≤ 9223372036854775807)), ((.bool (decide ((i : Int) > (0 : Int))) : Value) = .bool true → (0 ≤ ((i : Int) - 1) ∧ ((i : Int) - 1) < (l.length : Int))), ((.bool (decide ((i : Int) > (0 : Int))) : Value) = .bool true → (∀ w1, S w1 → w1.cell? ⟨sb, (addO off ((((i : Int) - 1)).toNat * 33)), none⟩ = some (.string (l.getD ((i : Int) - 1).toNat rz).1)))])) (by kernel_rfl) (by kernel_rfl) (fun _ => by kernel_rfl) ⟨(fun g0 => have q0 : ((i : Int) > (0 : Int)) := (of_decide_eq_true (boolV g0)); (fun w1 h => h.ocell 0 rfl rfl)), (fun g0 => have q0 : ((i : Int) > (0 : Int)) := (of_decide_eq_true (boolV g0)); (by omega)), (fun g0 => have q0 : ((i : Int) > (0 : Int)) := (of_decide_eq_true (boolV g0)); (by omega)), (fun g0 => have q0 : ((i : Int) > (0 : Int)) := (of_decide_eq_true (boolV g0)); (fun w1 h => by rw [addO_eq]; exact (cell_cells (h.ro _ hmem)).trans (ref_cell (j := 0) hW hcs (by omega) rfl))), trivial⟩ ?_
          refine Cfg.cond rfl (b := ((decide ((i : Int) > (0 : Int))) && ((Op.bytesLess (l.getD i rz).1.toList (l.getD ((i : Int) - 1).toNat rz).1.toList) || ((l.getD i rz).1.toList == (l.getD ((i : Int) - 1).toNat rz).1.toList)))) (by kernel_rfl) (fun c4r => ?_) (fun c4r => ?_)
          · have c4 : (((i : Int) > (0 : Int)) ∧ (((Op.bytesLess (l.getD i rz).1.toList (l.getD ((i : Int) - 1).toNat rz).1.toList) || ((l.getD i rz).1.toList == (l.getD ((i : Int) - 1).toNat rz).1.toList)) = true)) := ⟨(of_decide_eq_true (andT1 c4r)), (andT2 c4r)⟩
            refine Cfg.reg rfl [4] [] (Γ' := [(4, [], .int .i64 19)]) (nd := (fun _ => [])) (fun _ => by kernel_rfl) trivial ?_
            refine Cfg.ret rfl (rs := [.tmp 4]) rfl [.int .i64 19] ⟨by kernel_rfl, trivial⟩ (fun w1 hp => ?_)
            have hv : chkAt l o i = 19 := by
              unfold chkAt
              rw [if_neg (by rw [h3]; decide), if_pos c4r]
            exact ⟨by rw [chkF_stop (by omega) hinv (by omega) hv (by decide)]; rfl, hp.ext⟩
          · have c4 : ((¬ ((i : Int) > (0 : Int))) ∨ (((Op.bytesLess (l.getD i rz).1.toList (l.getD ((i : Int) - 1).toNat rz).1.toList) || ((l.getD i rz).1.toList == (l.getD ((i : Int) - 1).toNat rz).1.toList)) = false)) := ((andF c4r).elim (fun h => Or.inl (of_decide_eq_false h)) (fun h => Or.inr h))
            refine Cfg.reg rfl [0, 1, 6, 10, 11, 12, 37] [(0, false, none), (0, false, some (.agg (bv (l.getD i rz).2))), (0, false, some (.agg (bv (List.replicate 32 0)))), (0, false, some (.bool ((l.getD i rz).2 == (List.replicate 32 0))))] (Γ' := [(37, [], .bool ((l.getD i rz).2 == (List.replicate 32 0))), (6, [], .pointer (some ⟨xb, 0, none⟩)), (12, [], .int .i64 (i : Int)), (11, [], .int .i64 (l.length : Int)), (10, [], .slice (some ⟨sb, off, none⟩) l.length cap), (0, [], .slice (some ⟨sb, off, none⟩) l.length cap), (1, [], .slice lo o.length co)]) (nd := (fun S => [(∀ w1, S w1 → (loadVar 45 ⟨xb, 1, none⟩).run Try.prog w1 = .ok (.agg (bv (l.getD i rz).2)) w1), (∀ w1, S w1 → (Instr.build 45 #[]).run Try.prog w1 = .ok (.agg (bv (List.replicate 32 0))) w1), (∀ w1, S w1 → (Op.equal 45 (.agg (bv (l.getD i rz).2)) (.agg (bv (List.replicate 32 0)))).run Try.prog w1 = .ok ((l.getD i rz).2 == (List.replicate 32 0)) w1)])) (fun _ => by kernel_rfl) ⟨(fun w1 h => load_bytes Try.underlying45 rfl (by kernel_rfl) (hW.at i) (fun j hj => by rw [cell_cells (h.own (xb, _) (List.mem_of_getElem? (i := 0) rfl)), List.getElem?_toArray]; exact rc_byte (hW.at i) hj)), (fun _ _ => by kernel_rfl), (fun _ _ => equal_bv Try.underlying45 Try.underlying5 (by kernel_rfl) (hW.at _) rfl), trivial⟩ ?_
            refine Cfg.cond rfl (b := ((l.getD i rz).2 == (List.replicate 32 0))) (by kernel_rfl) (fun c5r => ?_) (fun c5r => ?_)
            · have c5 : (((l.getD i rz).2 == (List.replicate 32 0)) = true) := c5r
              refine Cfg.reg rfl [4] [] (Γ' := [(4, [], .int .i64 2)]) (nd := (fun _ => [])) (fun _ => by kernel_rfl) trivial ?_
              refine Cfg.ret rfl (rs := [.tmp 4]) rfl [.int .i64 2] ⟨by kernel_rfl, trivial⟩ (fun w1 hp => ?_)
              have hv : chkAt l o i = 2 := by
                unfold chkAt
                rw [if_neg (by rw [h3]; decide), if_neg (by rw [c4r]; decide), if_pos c5r]
              exact ⟨by rw [chkF_stop (by omega) hinv (by omega) hv (by decide)]; rfl, hp.ext⟩
            · have c5 : (((l.getD i rz).2 == (List.replicate 32 0)) = false) := c5r
              refine Cfg.begL rfl ?_
              refine CfgL.pure 3 [(0, false, none), (0, false, none), (0, false, some (.string (l.getD i rz).1))] none (Γ' := [(40, [], .string (l.getD i rz).1), (39, [], .pointer (some ⟨xb, 0, none⟩)), (38, [], .slice lo o.length co), (37, [], .bool ((l.getD i rz).2 == (List.replicate 32 0))), (6, [], .pointer (some ⟨xb, 0, none⟩)), (12, [], .int .i64 (i : Int)), (11, [], .int .i64 (l.length : Int)), (10, [], .slice (some ⟨sb, off, none⟩) l.length cap), (0, [], .slice (some ⟨sb, off, none⟩) l.length cap), (1, [], .slice lo o.length co)]) (nd := (fun S => [(∀ w1, S w1 → w1.cell? ⟨xb, 0, none⟩ = some (.string (l.getD i rz).1))])) (by kernel_rfl) (fun _ => by kernel_rfl) ⟨(fun w1 h => h.ocell 0 rfl rfl), trivial⟩ ?_
              refine CfgL.eff (o := _) rfl (by kernel_rfl) (by kernel_rfl) (Eff.callA (vs := [.slice lo o.length co, .string (l.getD i rz).1]) (.bool (decide (0 ≤ fidx (pEq (l.getD i rz).1) o))) rfl Try.func71 rfl rfl (by kernel_rfl) (fun w1 h => rHas lo co o (l.getD i rz).1 Rl w1 hJ hV (h.hasR (fun e he => he)) hm)) ?_
              rintro ⟨⟩ -
              refine CfgL.done rfl ?_
              refine Conv.cfg (Γ' := [(41, [], .bool (decide (0 ≤ fidx (pEq (l.getD i rz).1) o))), (12, [], .int .i64 (i : Int)), (11, [], .int .i64 (l.length : Int)), (10, [], .slice (some ⟨sb, off, none⟩) l.length cap), (0, [], .slice (some ⟨sb, off, none⟩) l.length cap), (1, [], .slice lo o.length co)]) (Conv.mk (by kernel_rfl)) ?_
              refine Cfg.cond rfl (b := (decide (0 ≤ fidx (pEq (l.getD i rz).1) o))) (by kernel_rfl) (fun c6r => ?_) (fun c6r => ?_)
              · have c6 : (0 ≤ fidx (pEq (l.getD i rz).1) o) := (of_decide_eq_true c6r)
                refine Cfg.reg rfl [4] [] (Γ' := [(4, [], .int .i64 17)]) (nd := (fun _ => [])) (fun _ => by kernel_rfl) trivial ?_
                refine Cfg.ret rfl (rs := [.tmp 4]) rfl [.int .i64 17] ⟨by kernel_rfl, trivial⟩ (fun w1 hp => ?_)
                have hv : chkAt l o i = 17 := by
                  unfold chkAt
                  rw [if_neg (by rw [h3]; decide), if_neg (by rw [c4r]; decide), if_neg (by rw [c5r]; decide), if_pos (by omega)]
                exact ⟨by rw [chkF_stop (by omega) hinv (by omega) hv (by decide)]; rfl, hp.ext⟩
              · have c6 : (¬ (0 ≤ fidx (pEq (l.getD i rz).1) o)) := (of_decide_eq_false c6r)
                refine Cfg.reg rfl [0, 1, 10, 11, 12] [] (Γ' := [(12, [], .int .i64 ((i : Int) + 1)), (11, [], .int .i64 (l.length : Int)), (10, [], .slice (some ⟨sb, off, none⟩) l.length cap), (0, [], .slice (some ⟨sb, off, none⟩) l.length cap), (1, [], .slice lo o.length co)]) (nd := (fun _ => [((-9223372036854775808 : Int) ≤ ((i : Int) + 1) ∧ ((i : Int) + 1) ≤ 9223372036854775807)])) (fun _ => by kernel_rfl) ⟨(by omega), trivial⟩ ?_
                have hv : chkAt l o i = 0 := by
                  unfold chkAt
                  rw [if_neg (by rw [h3]; decide), if_neg (by rw [c4r]; decide), if_neg (by rw [c5r]; decide), if_neg (by omega)]
                refine Cfg.again rfl (i + 1) ⟨by omega, by rw [← chkR_next (by omega) hv]; exact hinv⟩ (by show l.length - (i + 1) < l.length - i; omega) (Conv.mk (by kernel_rfl)) (.cons _ .slnil)
      · have c2 : (¬ ((i : Int) < (l.length : Int))) := (of_decide_eq_false c2r)
        refine Cfg.reg rfl [4] [] (Γ' := [(4, [], .int .i64 0)]) (nd := (fun _ => [])) (fun _ => by kernel_rfl) trivial ?_
        refine Cfg.ret rfl (rs := [.tmp 4]) rfl [.int .i64 0] ⟨by kernel_rfl, trivial⟩ (fun w1 hp => ?_)
        exact ⟨by rw [chkF_done (by omega) hinv (by omega)]; rfl, hp.ext⟩

set_option maxRecDepth 100000 in
theorem rCheckS (hd : ByteArray) (la ta : Option Addr) (cap ca : Nat) (l m : List Rf) (nx : Int) (Rl : List (Nat × Obj)) (w : World) (hI : InR Rl la l) (hJ : InR Rl ta m) (hW : W32 l) (hV : W32 m) (hR : Has w Rl) (hn : l.length ≤ maxLen) (hm : m.length ≤ maxLen) (hz : ∀ x ∈ l, x.1.size ≤ maxLen) (hz2 : ∀ x ∈ m, x.1.size ≤ maxLen) (hh : hd.size ≤ maxLen) :
    Calls Try.prog 10 #[.agg #[.string hd, .slice la l.length cap, .slice ta m.length ca, .int .u64 nx]] w fun e w' => e = .returned (.int .i64 (checkF ⟨hd, l, m, nx⟩)) ∧ Ext [] w w' := by
  refine enter (vs := [.agg #[.string hd, .slice la l.length cap, .slice ta m.length ca, .int .u64 nx]]) [] Rl [] Try.func10 rfl (by kernel_rfl) (HP.ofHas hR) ?_
  refine Cfg.begL rfl ?_
  refine CfgL.eff (o := _) rfl (by kernel_rfl) (by kernel_rfl) (Eff.box (v := .agg #[.string hd, .slice la l.length cap, .slice ta m.length ca, .int .u64 nx]) rfl (by kernel_rfl)) ?_
  rintro b1 ⟨hb1, nb1⟩
  refine CfgL.pure 1 [] (some [1]) (Γ' := [(1, [], .pointer (some ⟨b1, 0, none⟩))]) (nd := (fun _ => [])) (by kernel_rfl) (fun _ => by kernel_rfl) trivial ?_
  refine CfgL.done rfl ?_
  refine Cfg.begL rfl ?_
  refine CfgL.pure 2 [(0, false, none), (0, false, some (.string hd))] none (Γ' := [(5, [], .string hd), (4, [], .pointer (some ⟨b1, 0, none⟩)), (1, [], .pointer (some ⟨b1, 0, none⟩))]) (nd := (fun S => [(∀ w1, S w1 → w1.cell? ⟨b1, 0, none⟩ = some (.string hd))])) (by kernel_rfl) (fun _ => by kernel_rfl) ⟨(fun w1 h => h.ocell 0 rfl rfl), trivial⟩ ?_
  refine CfgL.eff (o := _) rfl (by kernel_rfl) (by kernel_rfl) (Eff.callA (vs := [.string hd]) (.bool (refB hd)) rfl Try.func35 rfl rfl (by kernel_rfl) (fun w1 _ => nameRef hd w1 hh)) ?_
  rintro ⟨⟩ -
  refine CfgL.pure 1 [] (some [1, 7]) (Γ' := [(7, [], .bool (!(refB hd))), (1, [], .pointer (some ⟨b1, 0, none⟩))]) (nd := (fun _ => [])) (by kernel_rfl) (fun _ => by kernel_rfl) trivial ?_
  refine CfgL.done rfl ?_
  refine Cfg.cond rfl (b := (!(refB hd))) (by kernel_rfl) (fun c1r => ?_) (fun c1r => ?_)
  · have c1 : ((refB hd) = false) := (notT c1r)
    refine Cfg.reg rfl [2] [] (Γ' := [(2, [], .int .i64 12)]) (nd := (fun _ => [])) (fun _ => by kernel_rfl) trivial ?_
    refine Cfg.ret rfl (rs := [.tmp 2]) rfl [.int .i64 12] ⟨by kernel_rfl, trivial⟩ (fun w1 hp => ?_)
    have h1 : refB hd = false := by simpa using c1r
    exact ⟨by rw [show checkF ⟨hd, l, m, nx⟩ = 12 from if_pos h1]; rfl, hp.ext⟩
  · have c1 : ((refB hd) = true) := (notF c1r)
    refine Cfg.begL rfl ?_
    refine CfgL.pure 2 [(0, false, none), (0, false, some (.slice la l.length cap))] none (Γ' := [(9, [], .slice la l.length cap), (8, [], .pointer (some ⟨b1, 1, none⟩)), (7, [], .bool (!(refB hd))), (1, [], .pointer (some ⟨b1, 0, none⟩))]) (nd := (fun S => [(∀ w1, S w1 → w1.cell? ⟨b1, 1, none⟩ = some (.slice la l.length cap))])) (by kernel_rfl) (fun _ => by kernel_rfl) ⟨(fun w1 h => h.ocell 0 rfl rfl), trivial⟩ ?_
    refine CfgL.eff (o := _) rfl (by kernel_rfl) (by kernel_rfl) (Eff.callA (vs := [.slice la l.length cap, .slice none 0 0]) (.int .i64 (chkF l [])) rfl Try.func36 rfl rfl (by kernel_rfl) (fun w1 h => rChk la none cap 0 l [] Rl w1 hI (InR.nil Rl none) hW W32.nil (h.hasR (fun e he => he)) hn (Nat.zero_le _) hz)) ?_
    rintro ⟨⟩ -
    refine CfgL.pure 1 [] (some [1, 3]) (Γ' := [(3, [], .int .i64 (chkF l [])), (1, [], .pointer (some ⟨b1, 0, none⟩))]) (nd := (fun _ => [])) (by kernel_rfl) (fun _ => by kernel_rfl) trivial ?_
    refine CfgL.done rfl ?_
    refine Cfg.reg rfl [1, 3, 12] [] (Γ' := [(12, [], .bool ((chkF l []) != (0 : Int))), (3, [], .int .i64 (chkF l [])), (1, [], .pointer (some ⟨b1, 0, none⟩))]) (nd := (fun _ => [])) (fun _ => by kernel_rfl) trivial ?_
    refine Cfg.cond rfl (b := ((chkF l []) != (0 : Int))) (by kernel_rfl) (fun c2r => ?_) (fun c2r => ?_)
    · have c2 : ((chkF l []) ≠ (0 : Int)) := (bne_iff_ne.1 c2r)
      refine Cfg.reg rfl [2] [] (Γ' := [(2, [], .int .i64 (chkF l []))]) (nd := (fun _ => [])) (fun _ => by kernel_rfl) trivial ?_
      refine Cfg.ret rfl (rs := [.tmp 2]) rfl [.int .i64 (chkF l [])] ⟨by kernel_rfl, trivial⟩ (fun w1 hp => ?_)
      have h1 : refB hd = true := by simpa using c1r
      exact ⟨by rw [show checkF ⟨hd, l, m, nx⟩ = chkF l [] from (if_neg (by simp only [h1]; decide)).trans (if_pos c2)]; rfl, hp.ext⟩
    · have c2 : ((chkF l []) = (0 : Int)) := (bne_eq_false_iff_eq.1 c2r)
      refine Cfg.begL rfl ?_
      refine CfgL.pure 4 [(0, false, none), (0, false, some (.slice ta m.length ca)), (0, false, none), (0, false, some (.slice la l.length cap))] none (Γ' := [(17, [], .slice la l.length cap), (16, [], .pointer (some ⟨b1, 1, none⟩)), (15, [], .slice ta m.length ca), (14, [], .pointer (some ⟨b1, 2, none⟩)), (12, [], .bool ((chkF l []) != (0 : Int))), (3, [], .int .i64 (chkF l [])), (1, [], .pointer (some ⟨b1, 0, none⟩))]) (nd := (fun S => [(∀ w1, S w1 → w1.cell? ⟨b1, 2, none⟩ = some (.slice ta m.length ca)), (∀ w1, S w1 → w1.cell? ⟨b1, 1, none⟩ = some (.slice la l.length cap))])) (by kernel_rfl) (fun _ => by kernel_rfl) ⟨(fun w1 h => h.ocell 0 rfl rfl), (fun w1 h => h.ocell 0 rfl rfl), trivial⟩ ?_
      refine CfgL.eff (o := _) rfl (by kernel_rfl) (by kernel_rfl) (Eff.callA (vs := [.slice ta m.length ca, .slice la l.length cap]) (.int .i64 (chkF m l)) rfl Try.func36 rfl rfl (by kernel_rfl) (fun w1 h => rChk ta la ca cap m l Rl w1 hJ hI hV hW (h.hasR (fun e he => he)) hm hn hz2)) ?_
      rintro ⟨⟩ -
      refine CfgL.pure 1 [] (some [2]) (Γ' := [(2, [], .int .i64 (chkF m l))]) (nd := (fun _ => [])) (by kernel_rfl) (fun _ => by kernel_rfl) trivial ?_
      refine CfgL.done rfl ?_
      refine Cfg.ret rfl (rs := [.tmp 2]) rfl [.int .i64 (chkF m l)] ⟨by kernel_rfl, trivial⟩ (fun w1 hp => ?_)
      have h1 : refB hd = true := by simpa using c1r
      exact ⟨by rw [show checkF ⟨hd, l, m, nx⟩ = chkF m l from (if_neg (by simp only [h1]; decide)).trans (if_neg (fun h => h c2))]; rfl, hp.ext⟩

set_option maxRecDepth 100000 in
theorem refCheckS (hd : ByteArray) (la ta : Option Addr) (cap ca : Nat) (l m : List Rf) (nx : Int) (Rl : List (Nat × Obj)) (w : World) (hI : InR Rl la l) (hJ : InR Rl ta m) (hW : W32 l) (hV : W32 m) (hR : Has w Rl) (hn : l.length ≤ maxLen) (hm : m.length ≤ maxLen) (hz : ∀ x ∈ l, x.1.size ≤ maxLen) (hz2 : ∀ x ∈ m, x.1.size ≤ maxLen) (hh : hd.size ≤ maxLen) :
    Calls Try.prog 21 #[.agg #[.string hd, .slice la l.length cap, .slice ta m.length ca, .int .u64 nx]] w fun e w' => e = .returned (.int .i64 (checkF ⟨hd, l, m, nx⟩)) ∧ Ext [] w w' := by
  refine enter (vs := [.agg #[.string hd, .slice la l.length cap, .slice ta m.length ca, .int .u64 nx]]) [] Rl [] Try.func21 rfl (by kernel_rfl) (HP.ofHas hR) ?_
  refine Cfg.begL rfl ?_
  refine CfgL.eff (o := _) rfl (by kernel_rfl) (by kernel_rfl) (Eff.box (v := .agg #[.string hd, .slice la l.length cap, .slice ta m.length ca, .int .u64 nx]) rfl (by kernel_rfl)) ?_
  rintro b1 ⟨hb1, nb1⟩
  refine CfgL.pure 1 [] (some [1]) (Γ' := [(1, [], .pointer (some ⟨b1, 0, none⟩))]) (nd := (fun _ => [])) (by kernel_rfl) (fun _ => by kernel_rfl) trivial ?_
  refine CfgL.done rfl ?_
  refine Cfg.begL rfl ?_
  refine CfgL.pure 2 [(0, false, none), (0, false, some (.string hd))] none (Γ' := [(5, [], .string hd), (4, [], .pointer (some ⟨b1, 0, none⟩)), (1, [], .pointer (some ⟨b1, 0, none⟩))]) (nd := (fun S => [(∀ w1, S w1 → w1.cell? ⟨b1, 0, none⟩ = some (.string hd))])) (by kernel_rfl) (fun _ => by kernel_rfl) ⟨(fun w1 h => h.ocell 0 rfl rfl), trivial⟩ ?_
  refine CfgL.eff (o := _) rfl (by kernel_rfl) (by kernel_rfl) (Eff.callA (vs := [.string hd]) (.bool (refB hd)) rfl Try.func50 rfl rfl (by kernel_rfl) (fun w1 _ => refRef hd w1 hh)) ?_
  rintro ⟨⟩ -
  refine CfgL.pure 1 [] (some [1, 7]) (Γ' := [(7, [], .bool (!(refB hd))), (1, [], .pointer (some ⟨b1, 0, none⟩))]) (nd := (fun _ => [])) (by kernel_rfl) (fun _ => by kernel_rfl) trivial ?_
  refine CfgL.done rfl ?_
  refine Cfg.cond rfl (b := (!(refB hd))) (by kernel_rfl) (fun c1r => ?_) (fun c1r => ?_)
  · have c1 : ((refB hd) = false) := (notT c1r)
    refine Cfg.reg rfl [2] [] (Γ' := [(2, [], .int .i64 12)]) (nd := (fun _ => [])) (fun _ => by kernel_rfl) trivial ?_
    refine Cfg.ret rfl (rs := [.tmp 2]) rfl [.int .i64 12] ⟨by kernel_rfl, trivial⟩ (fun w1 hp => ?_)
    have h1 : refB hd = false := by simpa using c1r
    exact ⟨by rw [show checkF ⟨hd, l, m, nx⟩ = 12 from if_pos h1]; rfl, hp.ext⟩
  · have c1 : ((refB hd) = true) := (notF c1r)
    refine Cfg.begL rfl ?_
    refine CfgL.pure 2 [(0, false, none), (0, false, some (.slice la l.length cap))] none (Γ' := [(9, [], .slice la l.length cap), (8, [], .pointer (some ⟨b1, 1, none⟩)), (7, [], .bool (!(refB hd))), (1, [], .pointer (some ⟨b1, 0, none⟩))]) (nd := (fun S => [(∀ w1, S w1 → w1.cell? ⟨b1, 1, none⟩ = some (.slice la l.length cap))])) (by kernel_rfl) (fun _ => by kernel_rfl) ⟨(fun w1 h => h.ocell 0 rfl rfl), trivial⟩ ?_
    refine CfgL.eff (o := _) rfl (by kernel_rfl) (by kernel_rfl) (Eff.callA (vs := [.slice la l.length cap, .slice none 0 0]) (.int .i64 (chkF l [])) rfl Try.func51 rfl rfl (by kernel_rfl) (fun w1 h => refChk la none cap 0 l [] Rl w1 hI (InR.nil Rl none) hW W32.nil (h.hasR (fun e he => he)) hn (Nat.zero_le _) hz)) ?_
    rintro ⟨⟩ -
    refine CfgL.pure 1 [] (some [1, 3]) (Γ' := [(3, [], .int .i64 (chkF l [])), (1, [], .pointer (some ⟨b1, 0, none⟩))]) (nd := (fun _ => [])) (by kernel_rfl) (fun _ => by kernel_rfl) trivial ?_
    refine CfgL.done rfl ?_
    refine Cfg.reg rfl [1, 3, 12] [] (Γ' := [(12, [], .bool ((chkF l []) != (0 : Int))), (3, [], .int .i64 (chkF l [])), (1, [], .pointer (some ⟨b1, 0, none⟩))]) (nd := (fun _ => [])) (fun _ => by kernel_rfl) trivial ?_
    refine Cfg.cond rfl (b := ((chkF l []) != (0 : Int))) (by kernel_rfl) (fun c2r => ?_) (fun c2r => ?_)
    · have c2 : ((chkF l []) ≠ (0 : Int)) := (bne_iff_ne.1 c2r)
      refine Cfg.reg rfl [2] [] (Γ' := [(2, [], .int .i64 (chkF l []))]) (nd := (fun _ => [])) (fun _ => by kernel_rfl) trivial ?_
      refine Cfg.ret rfl (rs := [.tmp 2]) rfl [.int .i64 (chkF l [])] ⟨by kernel_rfl, trivial⟩ (fun w1 hp => ?_)
      have h1 : refB hd = true := by simpa using c1r
      exact ⟨by rw [show checkF ⟨hd, l, m, nx⟩ = chkF l [] from (if_neg (by simp only [h1]; decide)).trans (if_pos c2)]; rfl, hp.ext⟩
    · have c2 : ((chkF l []) = (0 : Int)) := (bne_eq_false_iff_eq.1 c2r)
      refine Cfg.begL rfl ?_
      refine CfgL.pure 4 [(0, false, none), (0, false, some (.slice ta m.length ca)), (0, false, none), (0, false, some (.slice la l.length cap))] none (Γ' := [(17, [], .slice la l.length cap), (16, [], .pointer (some ⟨b1, 1, none⟩)), (15, [], .slice ta m.length ca), (14, [], .pointer (some ⟨b1, 2, none⟩)), (12, [], .bool ((chkF l []) != (0 : Int))), (3, [], .int .i64 (chkF l [])), (1, [], .pointer (some ⟨b1, 0, none⟩))]) (nd := (fun S => [(∀ w1, S w1 → w1.cell? ⟨b1, 2, none⟩ = some (.slice ta m.length ca)), (∀ w1, S w1 → w1.cell? ⟨b1, 1, none⟩ = some (.slice la l.length cap))])) (by kernel_rfl) (fun _ => by kernel_rfl) ⟨(fun w1 h => h.ocell 0 rfl rfl), (fun w1 h => h.ocell 0 rfl rfl), trivial⟩ ?_
      refine CfgL.eff (o := _) rfl (by kernel_rfl) (by kernel_rfl) (Eff.callA (vs := [.slice ta m.length ca, .slice la l.length cap]) (.int .i64 (chkF m l)) rfl Try.func51 rfl rfl (by kernel_rfl) (fun w1 h => refChk ta la ca cap m l Rl w1 hJ hI hV hW (h.hasR (fun e he => he)) hm hn hz2)) ?_
      rintro ⟨⟩ -
      refine CfgL.pure 1 [] (some [2]) (Γ' := [(2, [], .int .i64 (chkF m l))]) (nd := (fun _ => [])) (by kernel_rfl) (fun _ => by kernel_rfl) trivial ?_
      refine CfgL.done rfl ?_
      refine Cfg.ret rfl (rs := [.tmp 2]) rfl [.int .i64 (chkF m l)] ⟨by kernel_rfl, trivial⟩ (fun w1 hp => ?_)
      have h1 : refB hd = true := by simpa using c1r
      exact ⟨by rw [show checkF ⟨hd, l, m, nx⟩ = chkF m l from (if_neg (by simp only [h1]; decide)).trans (if_neg (fun h => h c2))]; rfl, hp.ext⟩

end Go.Proofs.Ytejgpniaoccpoaa
