/- script: the program's Parse. -/
import Derived.Test.YtoopekjbikcebaaDoorScJ
namespace Go.Proofs.YtoopekjbikcebaaDoor
open K
set_option linter.unusedVariables false

set_option maxRecDepth 100000 in
set_option maxHeartbeats 1000000 in
theorem sParse (t : ByteArray) (w : World) (hn : t.size ≤ maxLen) :
    Calls Tryd.prog 9 #[.string t] w fun e w' => ∃ o : K.Own, OwnOk o 6 (parseT t.data.toList).1.length (sv (parseT t.data.toList).1) ∧ e = .returned (.tuple #[.slice (Own.a o) (parseT t.data.toList).1.length (Own.c o), .int .i64 ((parseT t.data.toList).2.1 : Int), .int .i64 (parseT t.data.toList).2.2]) ∧ ∃ R1, HP w [] R1 (Own.o 26 (sv (parseT t.data.toList).1) o) w' := by
  have hlen := ba_len t
  have hn0 := hn
  unfold maxLen at hn
  refine enterM (vs := [.string t]) [] [] [] Tryd.func9 rfl (by kernel_rfl) (HP.start w) ?_
  refine Cfg.begL rfl ?_
  refine CfgL.eff (o := _) rfl (by kernel_rfl) (by kernel_rfl) (Eff.alloc (z := (.slice none 0 0)) rfl (by kernel_rfl)) ?_
  rintro ra ⟨hra, nra⟩
  refine CfgL.eff (o := _) rfl (by kernel_rfl) (by kernel_rfl) (Eff.alloc (z := (.int .i64 0)) rfl (by kernel_rfl)) ?_
  rintro rb ⟨hrb, nrb⟩
  refine CfgL.eff (o := _) rfl (by kernel_rfl) (by kernel_rfl) (Eff.alloc (z := (.int .i64 0)) rfl (by kernel_rfl)) ?_
  rintro rc ⟨hrc, nrc⟩
  refine CfgL.done rfl ?_
  refine Cfg.reg rfl [0, 2, 3, 4, 14] [] (Γ' := [(14, [], .bool (decide ((t.size : Int) > (20000 : Int)))), (4, [], .pointer (some ⟨rc, 0, none⟩)), (3, [], .pointer (some ⟨rb, 0, none⟩)), (2, [], .pointer (some ⟨ra, 0, none⟩)), (0, [], .string t)]) (nd := (fun _ => [])) (fun _ => by kernel_rfl) trivial ?_
  refine Cfg.cond rfl (b := (decide ((t.size : Int) > (20000 : Int)))) (by kernel_rfl) (fun c1r => ?_) (fun c1r => ?_)
  · have c1 : ((t.size : Int) > (20000 : Int)) := (of_decide_eq_true c1r)
    refine Cfg.begL rfl ?_
    refine CfgL.eff (o := _) rfl (by kernel_rfl) (by kernel_rfl) (Eff.store1 (b := ra) (off := 0) (v := .slice none 0 0) rfl (by kernel_rfl) (by kernel_rfl) rfl (by kernel_rfl) 2 (cs := #[.slice none 0 0]) (e := 22) (by kernel_rfl) (by simp)) ?_
    rintro ⟨⟩ -
    refine CfgL.eff (o := _) rfl (by kernel_rfl) (by kernel_rfl) (Eff.store1 (b := rb) (off := 0) (v := .int .i64 0) rfl (by kernel_rfl) (by kernel_rfl) rfl (by kernel_rfl) 1 (cs := #[.int .i64 0]) (e := 3) (by kernel_rfl) (by simp)) ?_
    rintro ⟨⟩ -
    refine CfgL.eff (o := _) rfl (by kernel_rfl) (by kernel_rfl) (Eff.store1 (b := rc) (off := 0) (v := .int .i64 5) rfl (by kernel_rfl) (by kernel_rfl) rfl (by kernel_rfl) 0 (cs := #[.int .i64 0]) (e := 27) (by kernel_rfl) (by simp)) ?_
    rintro ⟨⟩ -
    refine CfgL.done rfl ?_
    refine Conv.cfg (Γ' := [(4, [], .pointer (some ⟨rc, 0, none⟩)), (3, [], .pointer (some ⟨rb, 0, none⟩)), (2, [], .pointer (some ⟨ra, 0, none⟩))]) (Conv.mk (by kernel_rfl)) ?_
    refine Cfg.retM (O' := [(rc, .cells (#[.int .i64 0].setIfInBounds 0 (.int .i64 5)) 27 (0, 0)), (rb, .cells (#[.int .i64 0].setIfInBounds 0 (.int .i64 0)) 3 (0, 0)), (ra, .cells (#[.slice none 0 0].setIfInBounds 0 (.slice none 0 0)) 22 (0, 0))]) rfl (rs := [.cell 2 22, .cell 3 3, .cell 4 27]) rfl [.slice none 0 0, .int .i64 0, .int .i64 5] (List.Sublist.refl _) ⟨⟨_, by kernel_rfl, fun w1 h => h.ovar 2 (off := 0) rfl (by kernel_rfl) rfl⟩, ⟨_, by kernel_rfl, fun w1 h => h.ovar 1 (off := 0) rfl (by kernel_rfl) rfl⟩, ⟨_, by kernel_rfl, fun w1 h => h.ovar 0 (off := 0) rfl (by kernel_rfl) rfl⟩, trivial⟩ (fun w1 hp => ?_)
    have hT : parseT t.data.toList = ([], 0, 5) := if_pos (by rw [hlen]; omega)
    rw [hT]
    exact ⟨none, OwnOk.none _, rfl, _, hp.sub (List.nil_sublist _)⟩
  · have c1 : (¬ ((t.size : Int) > (20000 : Int))) := (of_decide_eq_false c1r)
    refine Cfg.begL rfl ?_
    refine CfgL.eff (o := _) rfl (by kernel_rfl) (by kernel_rfl) (Eff.alloc (z := (.slice none 0 0)) rfl (by kernel_rfl)) ?_
    rintro lb ⟨hlb, nlb⟩
    refine CfgL.done rfl ?_
    refine Conv.cfg (Γ' := [(5, [], .pointer (some ⟨lb, 0, none⟩)), (4, [], .pointer (some ⟨rc, 0, none⟩)), (3, [], .pointer (some ⟨rb, 0, none⟩)), (2, [], .pointer (some ⟨ra, 0, none⟩)), (0, [], .string t)]) (Conv.mk (by kernel_rfl)) ?_
    refine Cfg.begL rfl ?_
    refine CfgL.eff (o := _) rfl (by kernel_rfl) (by kernel_rfl) (Eff.alloc (z := (.int .i64 0)) rfl (by kernel_rfl)) ?_
    rintro kb ⟨hkb, nkb⟩
    refine CfgL.eff (o := _) rfl (by kernel_rfl) (by kernel_rfl) (Eff.store1 (b := kb) (off := 0) (v := .int .i64 0) rfl (by kernel_rfl) (by kernel_rfl) rfl (by kernel_rfl) 0 (cs := #[.int .i64 0]) (e := 3) (by kernel_rfl) (by simp)) ?_
    rintro ⟨⟩ -
    refine CfgL.done rfl ?_
    refine Cfg.setO (O' := [(kb, .cells #[.int .i64 0] 3 (0, 0)), (lb, .cells #[.slice none 0 0] 22 (0, 0)), (rc, .cells #[.int .i64 0] 27 (0, 0)), (rb, .cells #[.int .i64 0] 3 (0, 0)), (ra, .cells #[.slice none 0 0] 22 (0, 0))]) (congrArg (fun (xq : Array Value) => ([(kb, .cells xq 3 (0, 0)), (lb, .cells #[.slice none 0 0] 22 (0, 0)), (rc, .cells #[.int .i64 0] 27 (0, 0)), (rb, .cells #[.int .i64 0] 3 (0, 0)), (ra, .cells #[.slice none 0 0] 22 (0, 0))] : List (Nat × Obj))) (rfl)) ?_
    refine Cfg.begL rfl ?_
    refine CfgL.pure 1 [] (some [2, 3, 4, 5, 6, 15]) (Γ' := [(15, [], .string t), (6, [], .pointer (some ⟨kb, 0, none⟩)), (5, [], .pointer (some ⟨lb, 0, none⟩)), (4, [], .pointer (some ⟨rc, 0, none⟩)), (3, [], .pointer (some ⟨rb, 0, none⟩)), (2, [], .pointer (some ⟨ra, 0, none⟩))]) (nd := (fun _ => [])) (by kernel_rfl) (fun _ => by kernel_rfl) trivial ?_
    refine CfgL.eff (o := _) rfl (by kernel_rfl) (by kernel_rfl) (Eff.callN (vs := [.string t]) (fun tb : Nat => .func (.func 24) #[] #[.pointer (some ⟨tb, 0, none⟩)]) (fun tb => tb) (fun _ => .cells #[.string t] 9 (0, 0)) (fun _ => True) rfl Tryd.func18 rfl rfl (by kernel_rfl) (fun w1 _ => sLines t w1)) ?_
    rintro tb -
    refine CfgL.done rfl ?_
    refine Conv.cfg (Γ' := [(16, [], .func (.func 24) #[] #[.pointer (some ⟨tb, 0, none⟩)]), (6, [], .pointer (some ⟨kb, 0, none⟩)), (5, [], .pointer (some ⟨lb, 0, none⟩)), (4, [], .pointer (some ⟨rc, 0, none⟩)), (3, [], .pointer (some ⟨rb, 0, none⟩)), (2, [], .pointer (some ⟨ra, 0, none⟩))]) (Conv.mk (by kernel_rfl)) ?_
    refine Cfg.rangeB rfl (caps := #[.pointer (some ⟨tb, 0, none⟩)]) (by kernel_rfl) Tryd.func24 (by kernel_rfl) rfl (by kernel_rfl) (linesIt tb t hn0) (σ := PS) (fun (z : PS) => ([(kb, .cells #[.int .i64 (z.1 : Int)] 3 (0, 0)), (lb, .cells #[.slice (Own.a z.2.2.1) z.2.1.length (Own.c z.2.2.1)] 22 (0, 0)), (rc, .cells #[.int .i64 z.2.2.2.2] 27 (0, 0)), (rb, .cells #[.int .i64 z.2.2.2.1] 3 (0, 0)), (ra, .cells #[.slice none 0 0] 22 (0, 0))] ++ (Own.o 26 (sv z.2.1) z.2.2.1 ++ []))) (PJ) (0, [], none, 0, 0) PJ_start (List.Perm.of_eq (by rfl)) lnP (.ret) rfl ?_ ?_ ?_
    · intro l ob1 ob2 w2 M2 pre ⟨k, acc, o, e3, e4⟩ it rest hal hJx hit
      obtain ⟨hk, hok, hacc, rfl, rfl⟩ := PJ_run hJx hal
      have hil := lns_mem (show it ∈ lnsA [] t.data.toList by rw [hit]; simp)
      have hcl := cut_len it
      have hpn := lns_len t.data.toList []
      rw [if_pos rfl, hit, List.length_append, List.length_cons] at hpn
      rw [List.length_nil] at hil
      have hal2 : acc.length = pre.length := by rw [hacc]; unfold accOf; rw [List.length_map]
      refine ⟨Unit, fun _ => True, fun (_ : Unit) => [(7, [], .string (tx it)), (6, [], .pointer (some ⟨kb, 0, none⟩)), (5, [], .pointer (some ⟨lb, 0, none⟩)), (4, [], .pointer (some ⟨rc, 0, none⟩)), (3, [], .pointer (some ⟨rb, 0, none⟩)), (2, [], .pointer (some ⟨ra, 0, none⟩))], fun (_ : Unit) => ([(kb, .cells #[.int .i64 (k : Int)] 3 (0, 0)), (lb, .cells #[.slice (Own.a o) acc.length (Own.c o)] 22 (0, 0)), (rc, .cells #[.int .i64 0] 27 (0, 0)), (rb, .cells #[.int .i64 0] 3 (0, 0)), (ra, .cells #[.slice none 0 0] 22 (0, 0))] ++ (Own.o 26 (sv acc) o ++ [])), ?_, ?_⟩
      ·
        refine Cfg.reg rfl [2, 3, 4, 5, 6, 7] [] (Γ' := [(7, [], .string (tx it)), (6, [], .pointer (some ⟨kb, 0, none⟩)), (5, [], .pointer (some ⟨lb, 0, none⟩)), (4, [], .pointer (some ⟨rc, 0, none⟩)), (3, [], .pointer (some ⟨rb, 0, none⟩)), (2, [], .pointer (some ⟨ra, 0, none⟩))]) (nd := (fun _ => [])) (fun _ => by kernel_rfl) trivial ?_
        refine Cfg.mid rfl () trivial (Conv.mk (by kernel_rfl)) (List.Sublist.refl _)
      · rintro ⟨⟩ -
        refine Cfg.begL rfl ?_
        refine CfgL.pure 2 [(0, false, some (.int .i64 (k : Int)))] (some [2, 3, 4, 5, 6, 7, 19]) (Γ' := [(19, [], .int .i64 ((k : Int) + 1)), (7, [], .string (tx it)), (6, [], .pointer (some ⟨kb, 0, none⟩)), (5, [], .pointer (some ⟨lb, 0, none⟩)), (4, [], .pointer (some ⟨rc, 0, none⟩)), (3, [], .pointer (some ⟨rb, 0, none⟩)), (2, [], .pointer (some ⟨ra, 0, none⟩))]) (nd := (fun S => [(∀ w1, S w1 → w1.cell? ⟨kb, 0, none⟩ = some (.int .i64 (k : Int))), ((-9223372036854775808 : Int) ≤ ((k : Int) + 1) ∧ ((k : Int) + 1) ≤ 9223372036854775807)])) (by kernel_rfl) (fun _ => by kernel_rfl) ⟨(fun w1 h => h.ocell 1 rfl rfl), (by omega), trivial⟩ ?_
        refine CfgL.eff (o := _) rfl (by kernel_rfl) (by kernel_rfl) (Eff.store1 (b := kb) (off := 0) (v := .int .i64 ((k : Int) + 1)) rfl (by kernel_rfl) (by kernel_rfl) rfl (by kernel_rfl) 1 (cs := #[.int .i64 (k : Int)]) (e := 3) (by kernel_rfl) (by simp)) ?_
        rintro ⟨⟩ -
        refine CfgL.done rfl ?_
        refine Conv.cfg (Γ' := [(7, [], .string (tx it)), (6, [], .pointer (some ⟨kb, 0, none⟩)), (5, [], .pointer (some ⟨lb, 0, none⟩)), (4, [], .pointer (some ⟨rc, 0, none⟩)), (3, [], .pointer (some ⟨rb, 0, none⟩)), (2, [], .pointer (some ⟨ra, 0, none⟩))]) (Conv.mk (by kernel_rfl)) ?_
        refine Cfg.setO (O' := ([(l, ob2), (kb, .cells #[.int .i64 (((k + 1) : Nat) : Int)] 3 (0, 0)), (lb, .cells #[.slice (Own.a o) acc.length (Own.c o)] 22 (0, 0)), (rc, .cells #[.int .i64 0] 27 (0, 0)), (rb, .cells #[.int .i64 0] 3 (0, 0)), (ra, .cells #[.slice none 0 0] 22 (0, 0))] ++ (Own.o 26 (sv acc) o ++ []))) (congrArg (fun (xq : Array Value) => (([(l, ob2), (kb, .cells xq 3 (0, 0)), (lb, .cells #[.slice (Own.a o) acc.length (Own.c o)] 22 (0, 0)), (rc, .cells #[.int .i64 0] 27 (0, 0)), (rb, .cells #[.int .i64 0] 3 (0, 0)), (ra, .cells #[.slice none 0 0] 22 (0, 0))] ++ (Own.o 26 (sv acc) o ++ [])) : List (Nat × Obj))) (congrArg (fun z => #[Value.int .i64 z]) (show ((k : Int) + 1) = ((k + 1 : Nat) : Int) by omega))) ?_
        refine Cfg.begL rfl ?_
        refine CfgL.pure 1 [] (some [2, 3, 4, 5, 6, 21]) (Γ' := [(21, [], .string (tx it)), (6, [], .pointer (some ⟨kb, 0, none⟩)), (5, [], .pointer (some ⟨lb, 0, none⟩)), (4, [], .pointer (some ⟨rc, 0, none⟩)), (3, [], .pointer (some ⟨rb, 0, none⟩)), (2, [], .pointer (some ⟨ra, 0, none⟩))]) (nd := (fun _ => [])) (by kernel_rfl) (fun _ => by kernel_rfl) trivial ?_
        refine CfgL.eff (o := _) rfl (by kernel_rfl) (by kernel_rfl) (Eff.callA (vs := [.string (tx it), .string ⟨#[10]⟩]) (.tuple #[.string (tx (cutN it).1), .bool (cutN it).2]) rfl Tryd.func19 rfl rfl (by kernel_rfl) (fun w1 _ => sCut (tx it) w1 (by rw [tx_size]; unfold maxLen; omega))) ?_
        rintro ⟨⟩ -
        refine CfgL.pure 5 [] (some [2, 3, 4, 5, 6, 8, 9]) (Γ' := [(9, [], .bool (cutN it).2), (8, [], .string (tx (cutN it).1)), (6, [], .pointer (some ⟨kb, 0, none⟩)), (5, [], .pointer (some ⟨lb, 0, none⟩)), (4, [], .pointer (some ⟨rc, 0, none⟩)), (3, [], .pointer (some ⟨rb, 0, none⟩)), (2, [], .pointer (some ⟨ra, 0, none⟩))]) (nd := (fun _ => [])) (by kernel_rfl) (fun _ => by kernel_rfl) trivial ?_
        refine CfgL.done rfl ?_
        refine Cfg.begL rfl ?_
        refine CfgL.pure 1 [] (some [2, 3, 4, 5, 6, 9, 26]) (Γ' := [(26, [], .string (tx (cutN it).1)), (9, [], .bool (cutN it).2), (6, [], .pointer (some ⟨kb, 0, none⟩)), (5, [], .pointer (some ⟨lb, 0, none⟩)), (4, [], .pointer (some ⟨rc, 0, none⟩)), (3, [], .pointer (some ⟨rb, 0, none⟩)), (2, [], .pointer (some ⟨ra, 0, none⟩))]) (nd := (fun _ => [])) (by kernel_rfl) (fun _ => by kernel_rfl) trivial ?_
        refine CfgL.eff (o := _) rfl (by kernel_rfl) (by kernel_rfl) (Eff.callA (vs := [.string (tx (cutN it).1)]) (.tuple #[.agg (stL (stepV (cutN it).1).1).toArray, .bool (stepV (cutN it).1).2]) rfl Tryd.func20 rfl rfl (by kernel_rfl) (fun w1 _ => sStep (tx (cutN it).1) w1 (by rw [tx_size]; omega))) ?_
        rintro ⟨⟩ -
        refine CfgL.pure 3 [] (some [2, 3, 4, 5, 6, 9, 28, 29]) (Γ' := [(29, [], .bool (stepV (cutN it).1).2), (28, [], .agg (stL (stepV (cutN it).1).1).toArray), (9, [], .bool (cutN it).2), (6, [], .pointer (some ⟨kb, 0, none⟩)), (5, [], .pointer (some ⟨lb, 0, none⟩)), (4, [], .pointer (some ⟨rc, 0, none⟩)), (3, [], .pointer (some ⟨rb, 0, none⟩)), (2, [], .pointer (some ⟨ra, 0, none⟩))]) (nd := (fun _ => [])) (by kernel_rfl) (fun _ => by kernel_rfl) trivial ?_
        refine CfgL.eff (o := _) rfl (by kernel_rfl) (by kernel_rfl) (Eff.alloc (z := (.agg (stL sz0).toArray)) rfl (by kernel_rfl)) ?_
        rintro sb ⟨hsb, nsb⟩
        refine CfgL.eff (o := _) rfl (by kernel_rfl) (by kernel_rfl) (Eff.storeN (b := sb) (off := 0) (vs := (stL (stepV (cutN it).1).1).toArray) (n := 6) rfl (by kernel_rfl) (by kernel_rfl) (by kernel_rfl) rfl (st_all _) 0 (cs := (stL sz0).toArray) (e := 26) (by kernel_rfl) (by decide)) ?_
        rintro ⟨⟩ -
        refine CfgL.setO (O' := ([(sb, .cells ((stL (stepV (cutN it).1).1).toArray) 26 (0, 0)), (l, ob2), (kb, .cells #[.int .i64 (((k + 1) : Nat) : Int)] 3 (0, 0)), (lb, .cells #[.slice (Own.a o) acc.length (Own.c o)] 22 (0, 0)), (rc, .cells #[.int .i64 0] 27 (0, 0)), (rb, .cells #[.int .i64 0] 3 (0, 0)), (ra, .cells #[.slice none 0 0] 22 (0, 0))] ++ (Own.o 26 (sv acc) o ++ []))) (congrArg (fun (xq : Array Value) => (([(sb, .cells xq 26 (0, 0)), (l, ob2), (kb, .cells #[.int .i64 (((k + 1) : Nat) : Int)] 3 (0, 0)), (lb, .cells #[.slice (Own.a o) acc.length (Own.c o)] 22 (0, 0)), (rc, .cells #[.int .i64 0] 27 (0, 0)), (rb, .cells #[.int .i64 0] 3 (0, 0)), (ra, .cells #[.slice none 0 0] 22 (0, 0))] ++ (Own.o 26 (sv acc) o ++ [])) : List (Nat × Obj))) ((spl_all (cs := (stL sz0).toArray) (vs := (stL (stepV (cutN it).1).1).toArray) rfl))) ?_
        refine CfgL.pure 1 [] (some [2, 3, 4, 5, 6, 9, 10, 11]) (Γ' := [(11, [], .bool (stepV (cutN it).1).2), (10, [], .pointer (some ⟨sb, 0, none⟩)), (9, [], .bool (cutN it).2), (6, [], .pointer (some ⟨kb, 0, none⟩)), (5, [], .pointer (some ⟨lb, 0, none⟩)), (4, [], .pointer (some ⟨rc, 0, none⟩)), (3, [], .pointer (some ⟨rb, 0, none⟩)), (2, [], .pointer (some ⟨ra, 0, none⟩))]) (nd := (fun _ => [])) (by kernel_rfl) (fun _ => by kernel_rfl) trivial ?_
        refine CfgL.done rfl ?_
        refine Cfg.reg rfl [2, 3, 4, 5, 6, 10, 35] [] (Γ' := [(35, [], .bool ((!(cutN it).2) || (!(stepV (cutN it).1).2))), (10, [], .pointer (some ⟨sb, 0, none⟩)), (6, [], .pointer (some ⟨kb, 0, none⟩)), (5, [], .pointer (some ⟨lb, 0, none⟩)), (4, [], .pointer (some ⟨rc, 0, none⟩)), (3, [], .pointer (some ⟨rb, 0, none⟩)), (2, [], .pointer (some ⟨ra, 0, none⟩))]) (nd := (fun _ => [])) (fun _ => by kernel_rfl) trivial ?_
        refine Cfg.cond rfl (b := ((!(cutN it).2) || (!(stepV (cutN it).1).2))) (by kernel_rfl) (fun c2r => ?_) (fun c2r => ?_)
        · have c2 : (((cutN it).2 = false) ∨ ((stepV (cutN it).1).2 = false)) := ((orT c2r).elim (fun h => Or.inl (notT h)) (fun h => Or.inr (notT h)))
          have hlp : lnP it = false := lnP_no c2r
          refine Cfg.begA rfl (by kernel_rfl) ([(sb, .cells ((stL (stepV (cutN it).1).1).toArray) 26 (0, 0)), (l, ob2), (kb, .cells #[.int .i64 (((k + 1) : Nat) : Int)] 3 (0, 0)), (lb, .cells #[.slice (Own.a o) acc.length (Own.c o)] 22 (0, 0))] ++ (Own.o 26 (sv acc) o ++ [])) ?_
          refine CfgA.pure [0] [(0, false, some (.int .i64 (((k + 1) : Nat) : Int)))] (some [2, 3, 4, 36]) (l' := #[true, false, false, false]) (by kernel_rfl) (by kernel_rfl) (.cons_cons _ (.cons_cons _ (.cons_cons _ (.cons_cons _ (.cons _ (.cons _ (.cons _ (List.Sublist.refl _)))))))) 3 rfl (Γ' := [(36, [], .int .i64 (((k + 1) : Nat) : Int)), (4, [], .pointer (some ⟨rc, 0, none⟩)), (3, [], .pointer (some ⟨rb, 0, none⟩)), (2, [], .pointer (some ⟨ra, 0, none⟩))]) (nd := (fun S => [(∀ w1, S w1 → w1.cell? ⟨kb, 0, none⟩ = some (.int .i64 (((k + 1) : Nat) : Int)))])) (fun _ => by kernel_rfl) ⟨(fun w1 h => h.ocell 2 rfl rfl), trivial⟩ ?_
          refine CfgA.eff 1 (o := _) rfl (by kernel_rfl) (fuel' := 2) rfl (by kernel_rfl) (by kernel_rfl) (Eff.store1 (b := ra) (off := 0) (v := .slice none 0 0) rfl (by kernel_rfl) (by kernel_rfl) rfl (by kernel_rfl) 6 (cs := #[.slice none 0 0]) (e := 22) (by kernel_rfl) (by simp)) (fun _ _ => (.cons_cons _ (.cons_cons _ (.cons_cons _ (.cons_cons _ (.cons _ (.cons _ (.cons _ (List.Sublist.refl _))))))))) ?_
          rintro ⟨⟩ -
          refine CfgA.eff 2 (o := _) rfl (by kernel_rfl) (fuel' := 1) rfl (by kernel_rfl) (by kernel_rfl) (Eff.store1 (b := rb) (off := 0) (v := .int .i64 (((k + 1) : Nat) : Int)) rfl (by kernel_rfl) (by kernel_rfl) rfl (by kernel_rfl) 5 (cs := #[.int .i64 0]) (e := 3) (by kernel_rfl) (by simp)) (fun _ _ => (.cons_cons _ (.cons_cons _ (.cons_cons _ (.cons_cons _ (.cons _ (.cons _ (.cons _ (List.Sublist.refl _))))))))) ?_
          rintro ⟨⟩ -
          refine CfgA.eff 3 (o := _) rfl (by kernel_rfl) (fuel' := 0) rfl (by kernel_rfl) (by kernel_rfl) (Eff.store1 (b := rc) (off := 0) (v := .int .i64 60) rfl (by kernel_rfl) (by kernel_rfl) rfl (by kernel_rfl) 4 (cs := #[.int .i64 0]) (e := 27) (by kernel_rfl) (by simp)) (fun _ _ => (.cons_cons _ (.cons_cons _ (.cons_cons _ (.cons_cons _ (.cons _ (.cons _ (.cons _ (List.Sublist.refl _))))))))) ?_
          rintro ⟨⟩ -
          refine CfgA.done (by kernel_rfl) ?_
          refine Conv.cfg (Γ' := [(4, [], .pointer (some ⟨rc, 0, none⟩)), (3, [], .pointer (some ⟨rb, 0, none⟩)), (2, [], .pointer (some ⟨ra, 0, none⟩))]) (Conv.mk (by kernel_rfl)) ?_
          refine Cfg.retR rfl (fun w1 hp => ?_)
          exact ⟨(k + 1, acc, o, ((k + 1 : Nat) : Int), 60), PJ_stop hk hlp hok, by rw [if_neg (by rw [hlp]; decide)], hp.sub (.cons _ (.cons_cons _ (.cons_cons _ (.cons_cons _ (.cons_cons _ (.cons_cons _ (.cons_cons _ (List.Sublist.refl _))))))))⟩
        · have c2 : (((cutN it).2 = true) ∧ ((stepV (cutN it).1).2 = true)) := ⟨(notF (orF1 c2r)), (notF (orF2 c2r))⟩
          have hlp : lnP it = true := lnP_yes c2r
          refine Cfg.begL rfl ?_
          refine CfgL.pure 2 [(0, false, some (.slice (Own.a o) acc.length (Own.c o))), (0, false, some (.agg (stL (stepV (cutN it).1).1).toArray))] (some [5, 37, 38]) (Γ' := [(38, [], .agg (stL (stepV (cutN it).1).1).toArray), (37, [], .slice (Own.a o) acc.length (Own.c o)), (5, [], .pointer (some ⟨lb, 0, none⟩))]) (nd := (fun S => [(∀ w1, S w1 → w1.cell? ⟨lb, 0, none⟩ = some (.slice (Own.a o) acc.length (Own.c o))), (∀ w1, S w1 → (loadVar 26 ⟨sb, 0, none⟩).run Tryd.prog w1 = .ok (.agg (stL (stepV (cutN it).1).1).toArray) w1)])) (by kernel_rfl) (fun _ => by kernel_rfl) ⟨(fun w1 h => h.ocell 3 rfl rfl), (fun w1 h => h.oload 0 rfl Tryd.underlying26 rfl (n := 6) (by kernel_rfl) rfl), trivial⟩ ?_
          refine CfgL.eff (o := _) rfl (by kernel_rfl) (by kernel_rfl) (Eff.buildAgg (vs := (stL (stepV (cutN it).1).1).toArray) (n := 6) rfl (by kernel_rfl) Tryd.underlying22 (by kernel_rfl) (z := (.agg (stL sz0).toArray)) (by kernel_rfl) rfl (by decide) (by decide)) ?_
          rintro xb ⟨hxb, nxb⟩
          refine CfgL.eff (o := _) rfl (by kernel_rfl) (by kernel_rfl) (Eff.appendF rfl 6 32 Tryd.underlying22 (by kernel_rfl) (z := (.agg (stL sz0).toArray)) (by kernel_rfl) (by kernel_rfl) o (xs := (sv acc)) hok (by kernel_rfl) (b2 := xb) (off2 := 0) (m := 1) (c2 := 1) (by kernel_rfl) (stL (stepV (cutN it).1).1) rfl (st_all _) [(xb, .cells ((stL (stepV (cutN it).1).1).toArray) 26 (0, 0)), (sb, .cells ((stL (stepV (cutN it).1).1).toArray) 26 (0, 0)), (l, ob2), (kb, .cells #[.int .i64 (((k + 1) : Nat) : Int)] 3 (0, 0)), (lb, .cells #[.slice (Own.a o) acc.length (Own.c o)] 22 (0, 0)), (rc, .cells #[.int .i64 0] 27 (0, 0)), (rb, .cells #[.int .i64 0] 3 (0, 0)), (ra, .cells #[.slice none 0 0] 22 (0, 0))] [] (by rfl) (fun w1 h j v hj => st_src h 0 rfl hj) (by omega) (by omega)) ?_
          rintro o4 ko4
          refine CfgL.eff (o := _) rfl (by kernel_rfl) (by kernel_rfl) (Eff.store1 (b := lb) (off := 0) (v := .slice (Own.a o4) ((acc.length + 1)) (Own.c o4)) rfl (by kernel_rfl) (by kernel_rfl) rfl (by kernel_rfl) 4 (cs := #[.slice (Own.a o) acc.length (Own.c o)]) (e := 22) (by kernel_rfl) (by simp)) ?_
          rintro ⟨⟩ -
          refine CfgL.done rfl ?_
          refine Conv.cfg (Γ' := []) (Conv.mk (by kernel_rfl)) ?_
          refine Cfg.finR rfl (fun w1 hp => ?_)
          have hl1 : acc.length + 1 = (acc ++ [(stepV (cutN it).1).1]).length := by rw [List.length_append]; rfl
          have hrv : sv acc ++ stL (stepV (cutN it).1).1 = sv (acc ++ [(stepV (cutN it).1).1]) := by rw [sv_app, sv_one]
          rw [hl1, hrv] at ko4
          rw [hl1, hrv] at hp
          exact ⟨(k + 1, (acc ++ [(stepV (cutN it).1).1]), o4, 0, 0), PJ_go hk hacc hal hlp ko4, by rw [if_pos hlp], hp.sub (.cons _ (.cons _ (.cons_cons _ (.cons_cons _ (.cons_cons _ (.cons_cons _ (.cons_cons _ (.cons_cons _ (List.Sublist.refl _)))))))))⟩
    · intro dr1 ⟨k, acc, o, e3, e4⟩ hal hJy
      obtain ⟨hk, hok, hacc, rfl, rfl⟩ := PJ_run hJy hal
      have hq : parseT t.data.toList = (acc, 0, 0) := by
        rw [hacc]; exact (if_neg (by rw [hlen]; omega)).trans ((parse_lns _ [] 1 [] rfl).trans (parseL_all _ 1 [] hal))
      refine Cfg.begL rfl ?_
      refine CfgL.pure 1 [(0, false, some (.slice (Own.a o) acc.length (Own.c o)))] (some [2, 3, 4, 41]) (Γ' := [(41, [], .slice (Own.a o) acc.length (Own.c o)), (4, [], .pointer (some ⟨rc, 0, none⟩)), (3, [], .pointer (some ⟨rb, 0, none⟩)), (2, [], .pointer (some ⟨ra, 0, none⟩))]) (nd := (fun S => [(∀ w1, S w1 → w1.cell? ⟨lb, 0, none⟩ = some (.slice (Own.a o) acc.length (Own.c o)))])) (by kernel_rfl) (fun _ => by kernel_rfl) ⟨(fun w1 h => h.ocell 2 rfl rfl), trivial⟩ ?_
      refine CfgL.eff (o := _) rfl (by kernel_rfl) (by kernel_rfl) (Eff.store1 (b := ra) (off := 0) (v := .slice (Own.a o) acc.length (Own.c o)) rfl (by kernel_rfl) (by kernel_rfl) rfl (by kernel_rfl) 5 (cs := #[.slice none 0 0]) (e := 22) (by kernel_rfl) (by simp)) ?_
      rintro ⟨⟩ -
      refine CfgL.eff (o := _) rfl (by kernel_rfl) (by kernel_rfl) (Eff.store1 (b := rb) (off := 0) (v := .int .i64 0) rfl (by kernel_rfl) (by kernel_rfl) rfl (by kernel_rfl) 4 (cs := #[.int .i64 0]) (e := 3) (by kernel_rfl) (by simp)) ?_
      rintro ⟨⟩ -
      refine CfgL.eff (o := _) rfl (by kernel_rfl) (by kernel_rfl) (Eff.store1 (b := rc) (off := 0) (v := .int .i64 0) rfl (by kernel_rfl) (by kernel_rfl) rfl (by kernel_rfl) 3 (cs := #[.int .i64 0]) (e := 27) (by kernel_rfl) (by simp)) ?_
      rintro ⟨⟩ -
      refine CfgL.done rfl ?_
      refine Conv.cfg (Γ' := [(4, [], .pointer (some ⟨rc, 0, none⟩)), (3, [], .pointer (some ⟨rb, 0, none⟩)), (2, [], .pointer (some ⟨ra, 0, none⟩))]) (Conv.mk (by kernel_rfl)) ?_
      refine Cfg.retM (O' := ([(kb, .cells #[.int .i64 (k : Int)] 3 (0, 0)), (lb, .cells #[.slice (Own.a o) acc.length (Own.c o)] 22 (0, 0)), (rc, .cells (#[.int .i64 0].setIfInBounds 0 (.int .i64 0)) 27 (0, 0)), (rb, .cells (#[.int .i64 0].setIfInBounds 0 (.int .i64 0)) 3 (0, 0)), (ra, .cells (#[.slice none 0 0].setIfInBounds 0 (.slice (Own.a o) acc.length (Own.c o))) 22 (0, 0))] ++ (Own.o 26 (sv acc) o ++ []))) rfl (rs := [.cell 2 22, .cell 3 3, .cell 4 27]) rfl [.slice (Own.a o) acc.length (Own.c o), .int .i64 0, .int .i64 0] (List.Sublist.refl _) ⟨⟨_, by kernel_rfl, fun w1 h => h.ovar 4 (off := 0) rfl (by kernel_rfl) rfl⟩, ⟨_, by kernel_rfl, fun w1 h => h.ovar 3 (off := 0) rfl (by kernel_rfl) rfl⟩, ⟨_, by kernel_rfl, fun w1 h => h.ovar 2 (off := 0) rfl (by kernel_rfl) rfl⟩, trivial⟩ (fun w1 hp => ?_)
      rw [hq]
      have h9 := hp.sub (List.sublist_append_right _ _)
      rw [List.append_nil] at h9
      exact ⟨o, hok, rfl, _, h9⟩
    · intro dr1 ⟨k, acc, o, e3, e4⟩ pre it rest hit hal hpa hJy
      obtain ⟨rfl, rfl⟩ := PJ_end hJy hpa
      have hq : parseT t.data.toList = ([], pre.length + 1, 60) := by
        refine (if_neg (by rw [hlen]; omega)).trans ((parse_lns _ [] 1 [] rfl).trans ?_)
        rw [hit, parseL_stop pre it rest 1 [] hal hpa, Nat.add_comm 1]
      refine Cfg.retM (O' := ([(kb, .cells #[.int .i64 (k : Int)] 3 (0, 0)), (lb, .cells #[.slice (Own.a o) acc.length (Own.c o)] 22 (0, 0)), (rc, .cells #[.int .i64 60] 27 (0, 0)), (rb, .cells #[.int .i64 ((pre.length + 1 : Nat) : Int)] 3 (0, 0)), (ra, .cells #[.slice none 0 0] 22 (0, 0))] ++ (Own.o 26 (sv acc) o ++ []))) rfl (rs := [.cell 2 22, .cell 3 3, .cell 4 27]) rfl [.slice none 0 0, .int .i64 ((pre.length + 1 : Nat) : Int), .int .i64 60] (List.Sublist.refl _) ⟨⟨_, by kernel_rfl, fun w1 h => h.ovar 4 (off := 0) rfl (by kernel_rfl) rfl⟩, ⟨_, by kernel_rfl, fun w1 h => h.ovar 3 (off := 0) rfl (by kernel_rfl) rfl⟩, ⟨_, by kernel_rfl, fun w1 h => h.ovar 2 (off := 0) rfl (by kernel_rfl) rfl⟩, trivial⟩ (fun w1 hp => ?_)
      rw [hq]
      exact ⟨none, OwnOk.none _, rfl, _, hp.sub (List.nil_sublist _)⟩

end Go.Proofs.YtoopekjbikcebaaDoor
