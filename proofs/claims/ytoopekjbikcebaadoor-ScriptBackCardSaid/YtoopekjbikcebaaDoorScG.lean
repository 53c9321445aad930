/- script: a text parted at blanks. -/
import Derived.Test.YtoopekjbikcebaaDoorScF
import Derived.Test.YtoopekjbikcebaaDoorK16
import Derived.Test.YtoopekjbikcebaaDoorK23
import Derived.Test.YtoopekjbikcebaaDoorK14
namespace Go.Proofs.YtoopekjbikcebaaDoor
open K
set_option linter.unusedVariables false

theorem run_mkStr {w : World} {n : Nat} (h0 : 0 < n) (hn : n ≤ 1000000) : (Instr.makeSlice 66 (.int .i64 (n : Int)) (.int .i64 (n : Int))).run Tryd.prog w = .ok (.slice (some ⟨w.heap.size, 0, none⟩) n n) (w.alloc (.cells (rowSt [] n) 9 (0, 0))) := by
  have hi : (Tryd.prog.info? 9).map (fun i => (i.size, i.zero)) = some (1, some (.string (tx []))) := by kernel_rfl
  have hby : (Tryd.prog.info? 9).map (fun i => i.bytes) = some 16 := by kernel_rfl
  obtain ⟨inf, hinf, he⟩ := Option.map_eq_some_iff.1 hi
  rw [hinf] at hby
  simp only [Prod.mk.injEq] at he
  have hb : inf.bytes = 16 := Option.some.inj hby
  have hL : rowSt [] n = (List.replicate n (Value.string (tx []))).toArray := by unfold rowSt; rfl
  rw [hL]
  refine run_mkZ (L := List.replicate n (Value.string (tx []))) (z := .string (tx [])) Tryd.underlying66 hinf he.2 (by rw [he.1]; rfl) (by rw [he.1]; omega) (by omega) (by omega) (by rw [he.1, List.length_replicate]; omega) (fun i hi => ?_)
  rw [he.1] at hi
  rw [he.1, List.getElem?_replicate, if_pos (by omega), Nat.mod_one]; rfl
theorem drop_32 {s : List UInt8} (h : s.dropWhile notB ≠ []) : ∃ r, s.dropWhile notB = 32 :: r ∧ Lib.indexByte s 32 = ((s.takeWhile notB).length : Int) ∧ r = s.drop ((s.takeWhile notB).length + 1) ∧ (s.takeWhile notB).length + 1 ≤ s.length ∧ r.length + ((s.takeWhile notB).length + 1) = s.length := by
  rcases nb_head (l := s) with h0 | ⟨r, h0⟩
  · exact absurd h0 h
  · have h1 : s = s.takeWhile notB ++ 32 :: r := by rw [← h0, List.takeWhile_append_dropWhile]
    have h2 : s.length = (s.takeWhile notB).length + (r.length + 1) := by
      conv => lhs; rw [h1]
      rw [List.length_append, List.length_cons]
    refine ⟨r, h0, by rw [ix_32, if_neg h], ?_, by omega, by omega⟩
    have h3 := dropWhile_drop notB s
    rw [h0] at h3
    rw [← List.drop_drop, ← h3]; rfl
theorem ix_no {s : List UInt8} (h : s.dropWhile notB = []) : Lib.indexByte s 32 = -1 := by rw [ix_32, if_pos h]
theorem take_tw (s : List UInt8) : s.take (s.takeWhile notB).length = s.takeWhile notB := by
  conv => lhs; rw [← List.takeWhile_append_dropWhile (p := notB) (l := s)]
  rw [List.take_append_of_le_length (by rw [List.takeWhile_append_dropWhile]; exact Nat.le_refl _), List.takeWhile_append_dropWhile, List.take_length]
theorem none_32 {s : List UInt8} (h : (splitA [] s).length ≤ 1) : s.dropWhile notB = [] := by
  rcases nb_head (l := s) with h0 | ⟨r, h0⟩
  · exact h0
  · rw [split_next h0, List.length_cons, splitA_len] at h; omega
set_option maxRecDepth 100000 in
theorem gSplit (t : ByteArray) (w : World) (hn : t.size ≤ 100000) :
    Calls Tryd.prog 35 #[.string t, .string ⟨#[32]⟩, .int .i64 0, .int .i64 (-1)] w fun e w' => ∃ b : Nat, True ∧ e = .returned (.slice (some ⟨b, 0, none⟩) (parts t.data.toList).length (parts t.data.toList).length) ∧ w.heap.size ≤ b ∧ w'.heap[b]? = some (.cells (strs (parts t.data.toList)).toArray 9 (0, 0)) ∧ Ext [] w w' := by
  have hlen := ba_len t
  obtain ⟨N, hN⟩ : ∃ N, N = (splitA [] t.data.toList).length := ⟨_, rfl⟩
  have hN2 : N = t.data.toList.count 32 + 1 := by rw [hN, splitA_len]
  have hcl := List.count_le_length (a := (32 : UInt8)) (l := t.data.toList)
  refine enter (vs := [.string t, .string ⟨#[32]⟩, .int .i64 0, .int .i64 (-1)]) [] [] [] Tryd.func35 rfl (by kernel_rfl) (HP.start w) ?_
  refine Cfg.reg rfl [0, 1, 2, 3] [] (Γ' := [(0, [], .string t), (1, [], .string ⟨#[32]⟩), (2, [], .int .i64 0), (3, [], .int .i64 (-1))]) (nd := (fun _ => [])) (fun _ => by kernel_rfl) trivial ?_
  refine Cfg.reg rfl [0, 1, 2, 3, 13] [] (Γ' := [(13, [], .bool false), (0, [], .string t), (1, [], .string ⟨#[32]⟩), (2, [], .int .i64 0), (3, [], .int .i64 (-1))]) (nd := (fun _ => [])) (fun _ => by kernel_rfl) trivial ?_
  refine Cfg.condF rfl (b := false) (by kernel_rfl) rfl ?_
  refine Cfg.reg rfl [0, 1, 2, 3, 15] [] (Γ' := [(15, [], .bool ((⟨#[32]⟩ : ByteArray).toList == (⟨#[]⟩ : ByteArray).toList)), (0, [], .string t), (1, [], .string ⟨#[32]⟩), (2, [], .int .i64 0), (3, [], .int .i64 (-1))]) (nd := (fun _ => [])) (fun _ => by kernel_rfl) trivial ?_
  refine Cfg.condF rfl (b := ((⟨#[32]⟩ : ByteArray).toList == (⟨#[]⟩ : ByteArray).toList)) (by kernel_rfl) ((beq_tx [32] []).trans (by decide)) ?_
  refine Cfg.reg rfl [0, 1, 2, 3, 20] [] (Γ' := [(20, [], .bool true), (0, [], .string t), (1, [], .string ⟨#[32]⟩), (2, [], .int .i64 0), (3, [], .int .i64 (-1))]) (nd := (fun _ => [])) (fun _ => by kernel_rfl) trivial ?_
  refine Cfg.condT rfl (b := true) (by kernel_rfl) rfl ?_
  refine Cfg.begL rfl ?_
  refine CfgL.pure 2 [] (some [0, 1, 2, 3, 21, 22]) (Γ' := [(22, [], .string ⟨#[32]⟩), (21, [], .string t), (0, [], .string t), (1, [], .string ⟨#[32]⟩), (2, [], .int .i64 0), (3, [], .int .i64 (-1))]) (nd := (fun _ => [])) (by kernel_rfl) (fun _ => by kernel_rfl) trivial ?_
  refine CfgL.eff (o := _) rfl (by kernel_rfl) (by kernel_rfl) (Eff.callA (vs := [.string t, .string ⟨#[32]⟩]) (.int .i64 ((t.data.toList.count 32) : Int)) rfl Tryd.func42 rfl rfl (by kernel_rfl) (fun w1 _ => sCount t w1)) ?_
  rintro ⟨⟩ -
  refine CfgL.pure 2 [] (some [0, 1, 2, 3]) (Γ' := [(3, [], .int .i64 (((t.data.toList.count 32) : Int) + 1)), (0, [], .string t), (1, [], .string ⟨#[32]⟩), (2, [], .int .i64 0)]) (nd := (fun _ => [((-9223372036854775808 : Int) ≤ (((t.data.toList.count 32) : Int) + 1) ∧ (((t.data.toList.count 32) : Int) + 1) ≤ 9223372036854775807)])) (by kernel_rfl) (fun _ => by kernel_rfl) ⟨(by omega), trivial⟩ ?_
  refine CfgL.done rfl ?_
  refine Cfg.begL rfl ?_
  refine CfgL.pure 4 [] (some [0, 1, 2, 3, 25, 28]) (Γ' := [(28, [], .int .i64 ((t.size : Int) + 1)), (25, [], .int .i64 (((t.data.toList.count 32) : Int) + 1)), (3, [], .int .i64 (((t.data.toList.count 32) : Int) + 1)), (0, [], .string t), (1, [], .string ⟨#[32]⟩), (2, [], .int .i64 0)]) (nd := (fun _ => [((-9223372036854775808 : Int) ≤ ((t.size : Int) + 1) ∧ ((t.size : Int) + 1) ≤ 9223372036854775807)])) (by kernel_rfl) (fun _ => by kernel_rfl) ⟨(by omega), trivial⟩ ?_
  refine CfgL.eff (o := _) rfl (by kernel_rfl) (by kernel_rfl) (Eff.minI (k := .i64) (a := (((t.data.toList.count 32) : Int) + 1)) (b := ((t.size : Int) + 1)) rfl (by kernel_rfl) (by kernel_rfl)) ?_
  rintro ⟨⟩ -
  refine CfgL.pure 1 [] (some [0, 1, 2, 3]) (Γ' := [(3, [], .int .i64 (if ((t.size : Int) + 1) < (((t.data.toList.count 32) : Int) + 1) then ((t.size : Int) + 1) else (((t.data.toList.count 32) : Int) + 1))), (0, [], .string t), (1, [], .string ⟨#[32]⟩), (2, [], .int .i64 0)]) (nd := (fun _ => [])) (by kernel_rfl) (fun _ => by kernel_rfl) trivial ?_
  refine CfgL.done rfl ?_
  refine Cfg.setG (Γ' := [(3, [], .int .i64 (N : Int)), (0, [], .string t), (1, [], .string ⟨#[32]⟩), (2, [], .int .i64 0)]) (congrArg (fun (xq : Int) => ([(3, [], .int .i64 xq), (0, [], .string t), (1, [], .string ⟨#[32]⟩), (2, [], .int .i64 0)] : Env)) (by split <;> omega)) ?_
  refine Cfg.begL rfl ?_
  refine CfgL.pure 1 [] none (Γ' := [(30, [], .int .i64 (N : Int)), (3, [], .int .i64 (N : Int)), (0, [], .string t), (1, [], .string ⟨#[32]⟩), (2, [], .int .i64 0)]) (nd := (fun _ => [])) (by kernel_rfl) (fun _ => by kernel_rfl) trivial ?_
  refine CfgL.eff (o := _) rfl (by kernel_rfl) (by kernel_rfl) (Eff.makeRow (e := 9) (n := N) (cells := (rowSt [] N)) (v1 := .int .i64 (N : Int)) (v2 := .int .i64 (N : Int)) rfl (by kernel_rfl) (by kernel_rfl) (fun w1 => run_mkStr (by omega) (by omega))) ?_
  rintro b ⟨hb, nb⟩
  refine CfgL.pure 1 [] (some [0, 1, 2, 3, 9]) (Γ' := [(9, [], .slice (some ⟨b, 0, none⟩) N N), (3, [], .int .i64 (N : Int)), (0, [], .string t), (1, [], .string ⟨#[32]⟩), (2, [], .int .i64 0)]) (nd := (fun _ => [])) (by kernel_rfl) (fun _ => by kernel_rfl) trivial ?_
  refine CfgL.done rfl ?_
  refine Cfg.reg rfl [0, 1, 2, 3, 9] [] (Γ' := [(3, [], .int .i64 ((N : Int) - 1)), (9, [], .slice (some ⟨b, 0, none⟩) N N), (0, [], .string t), (1, [], .string ⟨#[32]⟩), (2, [], .int .i64 0)]) (nd := (fun _ => [((-9223372036854775808 : Int) ≤ ((N : Int) - 1) ∧ ((N : Int) - 1) ≤ 9223372036854775807)])) (fun _ => by kernel_rfl) ⟨(by omega), trivial⟩ ?_
  refine Cfg.reg rfl [0, 1, 2, 3, 9, 10] [] (Γ' := [(10, [], .int .i64 0), (3, [], .int .i64 ((N : Int) - 1)), (9, [], .slice (some ⟨b, 0, none⟩) N N), (0, [], .string t), (1, [], .string ⟨#[32]⟩), (2, [], .int .i64 0)]) (nd := (fun _ => [])) (fun _ => by kernel_rfl) trivial ?_
  refine Cfg.setG (Γ' := [(10, [], .int .i64 0), (3, [], .int .i64 ((N : Int) - 1)), (9, [], .slice (some ⟨b, 0, none⟩) N N), (0, [], .string (tx t.data.toList)), (1, [], .string ⟨#[32]⟩), (2, [], .int .i64 0)]) (congrArg (fun (xq : ByteArray) => ([(10, [], .int .i64 0), (3, [], .int .i64 ((N : Int) - 1)), (9, [], .slice (some ⟨b, 0, none⟩) N N), (0, [], .string xq), (1, [], .string ⟨#[32]⟩), (2, [], .int .i64 0)] : Env)) ((tx_back t).symm)) ?_
  refine Cfg.loop rfl (ι := Nat × List (List UInt8) × List UInt8) (fun (xz : Nat × List (List UInt8) × List UInt8) => match xz with | (i, done, s) => [(10, [], .int .i64 (i : Int)), (3, [], .int .i64 ((N : Int) - 1)), (9, [], .slice (some ⟨b, 0, none⟩) N N), (0, [], .string (tx s)), (1, [], .string ⟨#[32]⟩), (2, [], .int .i64 0)]) (fun (xz : Nat × List (List UInt8) × List UInt8) => match xz with | (i, done, s) => [(b, .cells (rowSt done N) 9 (0, 0))]) (fun (xz : Nat × List (List UInt8) × List UInt8) => match xz with | (i, done, s) => (splitA [] t.data.toList = done ++ splitA [] s) ∧ (done.length = i) ∧ (s.length + i ≤ t.size)) (fun (xz : Nat × List (List UInt8) × List UInt8) => match xz with | (i, done, s) => t.size + 1 - i) (0, [], t.data.toList) ?_ (Conv.mk (by kernel_rfl)) (.cons_cons _ .slnil) ?_
  · exact ⟨rfl, rfl, by show t.data.toList.length + 0 ≤ t.size; omega⟩
  · rintro ⟨i, done, s⟩ ⟨hsp, hdl, hsl⟩
    have hNd : N = i + (splitA [] s).length := by rw [hN, hsp, List.length_append, hdl]
    have hs1 := splitA_len s []
    refine Cfg.reg rfl [0, 1, 2, 3, 9, 10, 36] [] (Γ' := [(36, [], .bool (decide ((i : Int) < ((N : Int) - 1)))), (10, [], .int .i64 (i : Int)), (3, [], .int .i64 ((N : Int) - 1)), (9, [], .slice (some ⟨b, 0, none⟩) N N), (0, [], .string (tx s)), (1, [], .string ⟨#[32]⟩), (2, [], .int .i64 0)]) (nd := (fun _ => [])) (fun _ => by kernel_rfl) trivial ?_
    refine Cfg.cond rfl (b := (decide ((i : Int) < ((N : Int) - 1)))) (by kernel_rfl) (fun c4r => ?_) (fun c4r => ?_)
    · have c4 : ((i : Int) < ((N : Int) - 1)) := (of_decide_eq_true c4r)
      refine Cfg.begL rfl ?_
      refine CfgL.pure 2 [] (some [0, 1, 2, 3, 9, 10, 37, 38]) (Γ' := [(38, [], .string ⟨#[32]⟩), (37, [], .string (tx s)), (10, [], .int .i64 (i : Int)), (3, [], .int .i64 ((N : Int) - 1)), (9, [], .slice (some ⟨b, 0, none⟩) N N), (0, [], .string (tx s)), (1, [], .string ⟨#[32]⟩), (2, [], .int .i64 0)]) (nd := (fun _ => [])) (by kernel_rfl) (fun _ => by kernel_rfl) trivial ?_
      refine CfgL.eff (o := _) rfl (by kernel_rfl) (by kernel_rfl) (Eff.callA (vs := [.string (tx s), .string ⟨#[32]⟩]) (.int .i64 (Lib.indexByte s 32)) rfl Tryd.func43 rfl rfl (by kernel_rfl) (fun w1 _ => sIndexSp (tx s) w1 (by rw [tx_size]; unfold maxLen; omega))) ?_
      rintro ⟨⟩ -
      refine CfgL.pure 1 [] (some [0, 1, 2, 3, 9, 10, 11]) (Γ' := [(11, [], .int .i64 (Lib.indexByte s 32)), (10, [], .int .i64 (i : Int)), (3, [], .int .i64 ((N : Int) - 1)), (9, [], .slice (some ⟨b, 0, none⟩) N N), (0, [], .string (tx s)), (1, [], .string ⟨#[32]⟩), (2, [], .int .i64 0)]) (nd := (fun _ => [])) (by kernel_rfl) (fun _ => by kernel_rfl) trivial ?_
      refine CfgL.done rfl ?_
      refine Cfg.reg rfl [0, 1, 2, 3, 9, 10, 11, 41] [] (Γ' := [(41, [], .bool (decide ((Lib.indexByte s 32) < (0 : Int)))), (11, [], .int .i64 (Lib.indexByte s 32)), (10, [], .int .i64 (i : Int)), (3, [], .int .i64 ((N : Int) - 1)), (9, [], .slice (some ⟨b, 0, none⟩) N N), (0, [], .string (tx s)), (1, [], .string ⟨#[32]⟩), (2, [], .int .i64 0)]) (nd := (fun _ => [])) (fun _ => by kernel_rfl) trivial ?_
      refine Cfg.cond rfl (b := (decide ((Lib.indexByte s 32) < (0 : Int)))) (by kernel_rfl) (fun c5r => ?_) (fun c5r => ?_)
      · have c5 : ((Lib.indexByte s 32) < (0 : Int)) := (of_decide_eq_true c5r)
        have hdw : s.dropWhile notB = [] := by
          rcases Classical.em (s.dropWhile notB = []) with h | h
          · exact h
          · obtain ⟨r, hr0, hr1, _⟩ := drop_32 h
            omega
        refine Cfg.begL rfl ?_
        refine CfgL.pure 4 [] (some [9, 10, 60, 61]) (Γ' := [(61, [], .pointer (some ⟨b, i, none⟩)), (60, [], .string (tx s)), (10, [], .int .i64 (i : Int)), (9, [], .slice (some ⟨b, 0, none⟩) N N)]) (nd := (fun _ => [(0 ≤ (i : Int) ∧ (i : Int) < (N : Int))])) (by kernel_rfl) (fun _ => by kernel_rfl) ⟨(by omega), trivial⟩ ?_
        refine CfgL.eff (o := _) rfl (by kernel_rfl) (by kernel_rfl) (Eff.store1 (b := b) (off := i) (v := .string (tx s)) rfl (by kernel_rfl) (by kernel_rfl) rfl (by kernel_rfl) 0 (cs := (rowSt done N)) (e := 9) (by kernel_rfl) (by rw [rowSt_size (by omega)]; omega)) ?_
        rintro ⟨⟩ -
        refine CfgL.done rfl ?_
        refine Conv.cfg (Γ' := [(10, [], .int .i64 (i : Int)), (9, [], .slice (some ⟨b, 0, none⟩) N N)]) (Conv.mk (by kernel_rfl)) ?_
        refine Cfg.reg rfl [8] [] (Γ' := [(8, [], .slice (some ⟨b, 0, none⟩) ((i + 1)) N)]) (nd := (fun _ => [((-9223372036854775808 : Int) ≤ ((i : Int) + 1) ∧ ((i : Int) + 1) ≤ 9223372036854775807), (0 ≤ ((i : Int) + 1)), ((i + 1) ≤ N)])) (fun _ => by kernel_rfl) ⟨(by omega), (by omega), (by omega), trivial⟩ ?_
        refine Cfg.ret rfl (rs := [.tmp 8]) rfl [.slice (some ⟨b, 0, none⟩) ((i + 1)) N] ⟨by kernel_rfl, trivial⟩ (fun w1 hp => ?_)
        have hfin : splitA [] s = [s] := split_last hdw
        rw [hfin] at hsp hNd
        simp only [List.length_cons, List.length_nil] at hNd
        have hpl : (parts t.data.toList).length = N := by rw [parts_split, hN]
        have hrow : (rowSt done N).setIfInBounds i (.string (tx s)) = (strs (parts t.data.toList)).toArray := by
          rw [← hdl, rowSt_set (by omega), rowSt_full (by rw [List.length_append, hdl]; simp only [List.length_cons, List.length_nil]; omega), parts_split, hsp]
        rw [hpl]
        exact ⟨b, trivial, by rw [show i + 1 = N by omega]; rfl, hb, by rw [← hrow]; exact hp.own (b, _) (List.mem_cons_self ..), hp.ext⟩
      · have c5 : (¬ ((Lib.indexByte s 32) < (0 : Int))) := (of_decide_eq_false c5r)
        obtain ⟨r, hr0, hr1, hr2, hr3, hr4⟩ := drop_32 (s := s) (fun h => by rw [ix_no h] at c5; omega)
        refine Cfg.begL rfl ?_
        refine CfgL.pure 8 [] (some [0, 1, 2, 3, 9, 10, 11, 48, 49]) (Γ' := [(49, [], .pointer (some ⟨b, i, none⟩)), (48, [], .string ((tx s).extract 0 ((((Lib.indexByte s 32) + 0)).toNat))), (11, [], .int .i64 (Lib.indexByte s 32)), (10, [], .int .i64 (i : Int)), (3, [], .int .i64 ((N : Int) - 1)), (9, [], .slice (some ⟨b, 0, none⟩) N N), (0, [], .string (tx s)), (1, [], .string ⟨#[32]⟩), (2, [], .int .i64 0)]) (nd := (fun _ => [((-9223372036854775808 : Int) ≤ ((Lib.indexByte s 32) + 0) ∧ ((Lib.indexByte s 32) + 0) ≤ 9223372036854775807), (0 ≤ ((Lib.indexByte s 32) + 0)), (0 ≤ (((Lib.indexByte s 32) + 0)).toNat ∧ (((Lib.indexByte s 32) + 0)).toNat ≤ (tx s).size), (0 ≤ (i : Int) ∧ (i : Int) < (N : Int))])) (by kernel_rfl) (fun _ => by kernel_rfl) ⟨(by omega), (by omega), (by (try rw [tx_size]); omega), (by omega), trivial⟩ ?_
        refine CfgL.eff (o := _) rfl (by kernel_rfl) (by kernel_rfl) (Eff.store1 (b := b) (off := i) (v := .string ((tx s).extract 0 ((((Lib.indexByte s 32) + 0)).toNat))) rfl (by kernel_rfl) (by kernel_rfl) rfl (by kernel_rfl) 0 (cs := (rowSt done N)) (e := 9) (by kernel_rfl) (by rw [rowSt_size (by omega)]; omega)) ?_
        rintro ⟨⟩ -
        refine CfgL.done rfl ?_
        refine Conv.cfg (Γ' := [(11, [], .int .i64 (Lib.indexByte s 32)), (10, [], .int .i64 (i : Int)), (3, [], .int .i64 ((N : Int) - 1)), (9, [], .slice (some ⟨b, 0, none⟩) N N), (0, [], .string (tx s)), (1, [], .string ⟨#[32]⟩), (2, [], .int .i64 0)]) (Conv.mk (by kernel_rfl)) ?_
        refine Cfg.reg rfl [0, 1, 2, 3, 9, 10] [] (Γ' := [(0, [], .string ((tx s).extract ((((Lib.indexByte s 32) + 1)).toNat) ((tx s).size))), (10, [], .int .i64 (i : Int)), (3, [], .int .i64 ((N : Int) - 1)), (9, [], .slice (some ⟨b, 0, none⟩) N N), (1, [], .string ⟨#[32]⟩), (2, [], .int .i64 0)]) (nd := (fun _ => [((-9223372036854775808 : Int) ≤ ((Lib.indexByte s 32) + 1) ∧ ((Lib.indexByte s 32) + 1) ≤ 9223372036854775807), (0 ≤ ((Lib.indexByte s 32) + 1)), ((((Lib.indexByte s 32) + 1)).toNat ≤ (tx s).size ∧ (tx s).size ≤ (tx s).size)])) (fun _ => by kernel_rfl) ⟨(by omega), (by omega), (by (try rw [tx_size]); omega), trivial⟩ ?_
        refine Cfg.reg rfl [0, 1, 2, 3, 9, 10] [] (Γ' := [(10, [], .int .i64 ((i : Int) + 1)), (0, [], .string ((tx s).extract ((((Lib.indexByte s 32) + 1)).toNat) ((tx s).size))), (3, [], .int .i64 ((N : Int) - 1)), (9, [], .slice (some ⟨b, 0, none⟩) N N), (1, [], .string ⟨#[32]⟩), (2, [], .int .i64 0)]) (nd := (fun _ => [((-9223372036854775808 : Int) ≤ ((i : Int) + 1) ∧ ((i : Int) + 1) ≤ 9223372036854775807)])) (fun _ => by kernel_rfl) ⟨(by omega), trivial⟩ ?_
        have hsx := rowSt_set (d := done) (n := N) (by omega) (s.takeWhile notB)
        refine Cfg.setO (O' := [(b, .cells (rowSt (done ++ [s.takeWhile notB]) N) 9 (0, 0))]) (congrArg (fun (xq : Array Value) => ([(b, .cells xq 9 (0, 0))] : List (Nat × Obj))) (by rw [ext0, show (Lib.indexByte s 32 + 0).toNat = (s.takeWhile notB).length by omega, tx_list, take_tw, ← hdl]; exact hsx)) ?_
        refine Cfg.setG (Γ' := [(10, [], .int .i64 ((i : Int) + 1)), (0, [], .string (tx r)), (3, [], .int .i64 ((N : Int) - 1)), (9, [], .slice (some ⟨b, 0, none⟩) N N), (1, [], .string ⟨#[32]⟩), (2, [], .int .i64 0)]) (congrArg (fun (xq : ByteArray) => ([(10, [], .int .i64 ((i : Int) + 1)), (0, [], .string xq), (3, [], .int .i64 ((N : Int) - 1)), (9, [], .slice (some ⟨b, 0, none⟩) N N), (1, [], .string ⟨#[32]⟩), (2, [], .int .i64 0)] : Env)) (by rw [ext_tx, tx_list, tx_size, show (Lib.indexByte s 32 + 1).toNat = (s.takeWhile notB).length + 1 by omega, ← hr2, List.take_of_length_le (by omega)])) ?_
        refine Cfg.setG (Γ' := [(10, [], .int .i64 (((i + 1) : Nat) : Int)), (0, [], .string (tx r)), (3, [], .int .i64 ((N : Int) - 1)), (9, [], .slice (some ⟨b, 0, none⟩) N N), (1, [], .string ⟨#[32]⟩), (2, [], .int .i64 0)]) (congrArg (fun (xq : Int) => ([(10, [], .int .i64 xq), (0, [], .string (tx r)), (3, [], .int .i64 ((N : Int) - 1)), (9, [], .slice (some ⟨b, 0, none⟩) N N), (1, [], .string ⟨#[32]⟩), (2, [], .int .i64 0)] : Env)) (by omega)) ?_
        refine Cfg.again rfl (i + 1, (done ++ [s.takeWhile notB]), r) ⟨by rw [hsp, split_next hr0, List.append_assoc]; rfl, by rw [List.length_append, hdl]; rfl, by omega⟩ (by show t.size + 1 - (i + 1) < t.size + 1 - i; omega) (Conv.mk (by kernel_rfl)) (.cons_cons _ .slnil)
    · have c4 : (¬ ((i : Int) < ((N : Int) - 1))) := (of_decide_eq_false c4r)
      have hdw : s.dropWhile notB = [] := none_32 (by omega)
      refine Cfg.begL rfl ?_
      refine CfgL.pure 4 [] (some [9, 10, 60, 61]) (Γ' := [(61, [], .pointer (some ⟨b, i, none⟩)), (60, [], .string (tx s)), (10, [], .int .i64 (i : Int)), (9, [], .slice (some ⟨b, 0, none⟩) N N)]) (nd := (fun _ => [(0 ≤ (i : Int) ∧ (i : Int) < (N : Int))])) (by kernel_rfl) (fun _ => by kernel_rfl) ⟨(by omega), trivial⟩ ?_
      refine CfgL.eff (o := _) rfl (by kernel_rfl) (by kernel_rfl) (Eff.store1 (b := b) (off := i) (v := .string (tx s)) rfl (by kernel_rfl) (by kernel_rfl) rfl (by kernel_rfl) 0 (cs := (rowSt done N)) (e := 9) (by kernel_rfl) (by rw [rowSt_size (by omega)]; omega)) ?_
      rintro ⟨⟩ -
      refine CfgL.done rfl ?_
      refine Conv.cfg (Γ' := [(10, [], .int .i64 (i : Int)), (9, [], .slice (some ⟨b, 0, none⟩) N N)]) (Conv.mk (by kernel_rfl)) ?_
      refine Cfg.reg rfl [8] [] (Γ' := [(8, [], .slice (some ⟨b, 0, none⟩) ((i + 1)) N)]) (nd := (fun _ => [((-9223372036854775808 : Int) ≤ ((i : Int) + 1) ∧ ((i : Int) + 1) ≤ 9223372036854775807), (0 ≤ ((i : Int) + 1)), ((i + 1) ≤ N)])) (fun _ => by kernel_rfl) ⟨(by omega), (by omega), (by omega), trivial⟩ ?_
      refine Cfg.ret rfl (rs := [.tmp 8]) rfl [.slice (some ⟨b, 0, none⟩) ((i + 1)) N] ⟨by kernel_rfl, trivial⟩ (fun w1 hp => ?_)
      have hfin : splitA [] s = [s] := split_last hdw
      rw [hfin] at hsp hNd
      simp only [List.length_cons, List.length_nil] at hNd
      have hpl : (parts t.data.toList).length = N := by rw [parts_split, hN]
      have hrow : (rowSt done N).setIfInBounds i (.string (tx s)) = (strs (parts t.data.toList)).toArray := by
        rw [← hdl, rowSt_set (by omega), rowSt_full (by rw [List.length_append, hdl]; simp only [List.length_cons, List.length_nil]; omega), parts_split, hsp]
      rw [hpl]
      exact ⟨b, trivial, by rw [show i + 1 = N by omega]; rfl, hb, by rw [← hrow]; exact hp.own (b, _) (List.mem_cons_self ..), hp.ext⟩

set_option maxRecDepth 100000 in
theorem sSplit (t : ByteArray) (w : World) (hn : t.size ≤ 100000) :
    Calls Tryd.prog 27 #[.string t, .string ⟨#[32]⟩] w fun e w' => ∃ b : Nat, True ∧ e = .returned (.slice (some ⟨b, 0, none⟩) (parts t.data.toList).length (parts t.data.toList).length) ∧ w.heap.size ≤ b ∧ w'.heap[b]? = some (.cells (strs (parts t.data.toList)).toArray 9 (0, 0)) ∧ Ext [] w w' := by
  refine enter (vs := [.string t, .string ⟨#[32]⟩]) [] [] [] Tryd.func27 rfl (by kernel_rfl) (HP.start w) ?_
  refine Cfg.reg rfl [0, 1] [] (Γ' := [(0, [], .string t), (1, [], .string ⟨#[32]⟩)]) (nd := (fun _ => [])) (fun _ => by kernel_rfl) trivial ?_
  refine Cfg.begL rfl ?_
  refine CfgL.pure 2 [] (some [5, 6]) (Γ' := [(6, [], .string ⟨#[32]⟩), (5, [], .string t)]) (nd := (fun _ => [])) (by kernel_rfl) (fun _ => by kernel_rfl) trivial ?_
  refine CfgL.eff (o := _) rfl (by kernel_rfl) (by kernel_rfl) (Eff.callN (vs := [.string t, .string ⟨#[32]⟩, .int .i64 0, .int .i64 (-1)]) (fun b : Nat => .slice (some ⟨b, 0, none⟩) (parts t.data.toList).length (parts t.data.toList).length) (fun b => b) (fun _ => .cells (strs (parts t.data.toList)).toArray 9 (0, 0)) (fun _ => True) rfl Tryd.func35 rfl rfl (by kernel_rfl) (fun w1 _ => gSplit t w1 hn)) ?_
  rintro b ⟨-, hb, nb⟩
  refine CfgL.pure 1 [] (some [4]) (Γ' := [(4, [], .slice (some ⟨b, 0, none⟩) (parts t.data.toList).length (parts t.data.toList).length)]) (nd := (fun _ => [])) (by kernel_rfl) (fun _ => by kernel_rfl) trivial ?_
  refine CfgL.done rfl ?_
  refine Cfg.ret rfl (rs := [.tmp 4]) rfl [.slice (some ⟨b, 0, none⟩) (parts t.data.toList).length (parts t.data.toList).length] ⟨by kernel_rfl, trivial⟩ (fun w1 hp => ?_)
  exact ⟨b, trivial, rfl, hb, hp.own (b, _) (List.mem_cons_self ..), hp.ext⟩

end Go.Proofs.YtoopekjbikcebaaDoor
