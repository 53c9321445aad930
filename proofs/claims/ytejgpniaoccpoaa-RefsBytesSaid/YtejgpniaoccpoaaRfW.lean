/- refs: the state that bytes are, as the document says; are two the same? -/
import Derived.Test.YtejgpniaoccpoaaRfV
namespace Go.Proofs.Ytejgpniaoccpoaa
open K
set_option linter.unusedVariables false

theorem p2_eq (t : List UInt8) : rowsT takeR (p1 t).2 16 = p2 t := by unfold p2; rfl
theorem p3_eq (t : List UInt8) : rowsT takeR (p2 t).2 16 = p3 t := by unfold p3; rfl
theorem ends_ok {t : List UInt8} (h : endF (p4 t).2 = 0) : (takeT (p1 t).2).1 = (p2 t).1 ∧ (takeT (p2 t).2).1 = (p3 t).1 := by
  have he : (p4 t).2.er = 0 := by
    unfold endF at h
    split at h
    · rename_i h1; exact absurd h h1
    · rename_i h1; exact Decidable.not_not.1 h1
  obtain ⟨a1, _⟩ := eight_ok (z := (p3 t).2) (by unfold p4 at he; exact he)
  have a1' : (rowsT takeR (p2 t).2 16).2.er = 0 := by unfold p3 at a1; exact a1
  obtain ⟨b1, _, _⟩ := rowsT_ok a1'
  have b1' : (rowsT takeR (p1 t).2 16).2.er = 0 := by unfold p2 at b1; exact b1
  refine ⟨?_, ?_⟩
  · unfold p2; exact takeT_ok b1'
  · unfold p3; exact takeT_ok a1'

set_option maxRecDepth 100000 in
set_option maxHeartbeats 4000000 in
theorem refParse (t : List UInt8) (w : World) (ht : t.length ≤ 9223372036854775807) :
    Calls Try.prog 9 #[.string (tx t)] w fun e w' => ∃ x : K.Own × K.Own, (OwnOk x.1 33 (parseS t).l.length (rv (parseS t).l) ∧ OwnOk x.2 33 (parseS t).m.length (rv (parseS t).m)) ∧ e = .returned (.tuple #[.agg #[.string (parseS t).hd, .slice (Own.a x.1) (parseS t).l.length (Own.c x.1), .slice (Own.a x.2) (parseS t).m.length (Own.c x.2), .int .u64 (parseS t).nx], .int .i64 (parseE t)]) ∧ ∃ R1, HP w [] R1 (Own.o 50 (rv (parseS t).m) x.2 ++ (Own.o 50 (rv (parseS t).l) x.1 ++ [])) w' := by
  have hl1 := rowsT_len (p1 t).2
  have hl2 := rowsT_len (p2 t).2
  have hw1 := rowsT_w (p1 t).2
  have hw2 := rowsT_w (p2 t).2
  refine enter (vs := [.string (tx t)]) [] [] [] Try.func9 rfl (by kernel_rfl) (HP.start w) ?_
  refine Cfg.begL rfl ?_
  refine CfgL.eff (o := _) rfl (by kernel_rfl) (by kernel_rfl) (Eff.alloc (z := (.agg #[.string ByteArray.empty, .slice none 0 0, .slice none 0 0, .int .u64 0])) rfl (by kernel_rfl)) ?_
  rintro rs ⟨hrs, nrs⟩
  refine CfgL.pure 1 [] (some [0, 2]) (Γ' := [(2, [], .pointer (some ⟨rs, 0, none⟩)), (0, [], .string (tx t))]) (nd := (fun _ => [])) (by kernel_rfl) (fun _ => by kernel_rfl) trivial ?_
  refine CfgL.done rfl ?_
  refine Cfg.begL rfl ?_
  refine CfgL.pure 2 [(0, false, none), (0, false, some (.agg (inR ⟨0, t⟩)))] none (Γ' := [(8, [], .agg (inR ⟨0, t⟩)), (7, [], .string (tx t)), (2, [], .pointer (some ⟨rs, 0, none⟩)), (0, [], .string (tx t))]) (nd := (fun S => [(∀ w1, S w1 → (Instr.build 70 #[(0, .string (tx t))]).run Try.prog w1 = .ok (.agg (inR ⟨0, t⟩)) w1)])) (by kernel_rfl) (fun _ => by kernel_rfl) ⟨(fun _ _ => by kernel_rfl), trivial⟩ ?_
  refine CfgL.eff (o := _) rfl (by kernel_rfl) (by kernel_rfl) (Eff.box (v := .agg (inR ⟨0, t⟩)) rfl (by kernel_rfl)) ?_
  rintro ib ⟨hib, nib⟩
  refine CfgL.pure 1 [] (some [2, 4]) (Γ' := [(4, [], .pointer (some ⟨ib, 0, none⟩)), (2, [], .pointer (some ⟨rs, 0, none⟩))]) (nd := (fun _ => [])) (by kernel_rfl) (fun _ => by kernel_rfl) trivial ?_
  refine CfgL.done rfl ?_
  refine Cfg.begL rfl ?_
  refine CfgL.eff (o := _) rfl (by kernel_rfl) (by kernel_rfl) (Eff.alloc (z := (.agg #[.string ByteArray.empty, .slice none 0 0, .slice none 0 0, .int .u64 0])) rfl (by kernel_rfl)) ?_
  rintro s ⟨hs, ns⟩
  refine CfgL.done rfl ?_
  refine Cfg.begL rfl ?_
  refine CfgL.pure 1 [] none (Γ' := [(10, [], .pointer (some ⟨ib, 0, none⟩)), (5, [], .pointer (some ⟨s, 0, none⟩)), (4, [], .pointer (some ⟨ib, 0, none⟩)), (2, [], .pointer (some ⟨rs, 0, none⟩))]) (nd := (fun _ => [])) (by kernel_rfl) (fun _ => by kernel_rfl) trivial ?_
  refine CfgL.eff (o := _) rfl (by kernel_rfl) (by kernel_rfl) (Eff.callM (vs := [.pointer (some ⟨ib, 0, none⟩), .int .i64 24]) (.string (tx (p1 t).1)) 1 (b := ib) (ob := Obj.cells (inR (⟨0, t⟩)) 70 (0, 0)) (.cells (inR ((p1 t).2)) 70 (0, 0)) rfl Try.func31 rfl rfl (by kernel_rfl) (by kernel_rfl) (fun w1 h => rTextI ib ⟨0, t⟩ 24 w1 (h.own (ib, Obj.cells (inR ⟨0, t⟩) 70 (0, 0)) (show (ib, Obj.cells (inR ⟨0, t⟩) 70 (0, 0)) ∈ [(s, Obj.cells #[.string ByteArray.empty, .slice none 0 0, .slice none 0 0, .int .u64 0] 32 (0, 0)), (ib, Obj.cells (inR ⟨0, t⟩) 70 (0, 0)), (rs, Obj.cells #[.string ByteArray.empty, .slice none 0 0, .slice none 0 0, .int .u64 0] 32 (0, 0))] from (List.mem_of_getElem? (i := 1) rfl))) (by omega))) ?_
  rintro ⟨⟩ -
  refine CfgL.pure 1 [] none (Γ' := [(12, [], .pointer (some ⟨s, 0, none⟩)), (11, [], .string (tx (p1 t).1)), (10, [], .pointer (some ⟨ib, 0, none⟩)), (5, [], .pointer (some ⟨s, 0, none⟩)), (4, [], .pointer (some ⟨ib, 0, none⟩)), (2, [], .pointer (some ⟨rs, 0, none⟩))]) (nd := (fun _ => [])) (by kernel_rfl) (fun _ => by kernel_rfl) trivial ?_
  refine CfgL.eff (o := _) rfl (by kernel_rfl) (by kernel_rfl) (Eff.store1 (b := s) (off := 0) (v := .string (tx (p1 t).1)) rfl (by kernel_rfl) (by kernel_rfl) rfl (by kernel_rfl) 0 (cs := #[.string ByteArray.empty, .slice none 0 0, .slice none 0 0, .int .u64 0]) (e := 32) (by kernel_rfl) (by simp)) ?_
  rintro ⟨⟩ -
  refine CfgL.done rfl ?_
  refine Conv.cfg (Γ' := [(5, [], .pointer (some ⟨s, 0, none⟩)), (4, [], .pointer (some ⟨ib, 0, none⟩)), (2, [], .pointer (some ⟨rs, 0, none⟩))]) (Conv.mk (by kernel_rfl)) ?_
  refine Cfg.begL rfl ?_
  refine CfgL.pure 1 [] none (Γ' := [(13, [], .pointer (some ⟨ib, 0, none⟩)), (5, [], .pointer (some ⟨s, 0, none⟩)), (4, [], .pointer (some ⟨ib, 0, none⟩)), (2, [], .pointer (some ⟨rs, 0, none⟩))]) (nd := (fun _ => [])) (by kernel_rfl) (fun _ => by kernel_rfl) trivial ?_
  refine CfgL.eff (o := _) rfl (by kernel_rfl) (by kernel_rfl) (Eff.callMO (vs := [.pointer (some ⟨ib, 0, none⟩)]) 50 33 (takeT (p1 t).2).1.length (rv (takeT (p1 t).2).1) [(s, .cells (#[.string ByteArray.empty, .slice none 0 0, .slice none 0 0, .int .u64 0].setIfInBounds 0 (.string (tx (p1 t).1))) 32 (0, 0))] [(rs, .cells #[.string ByteArray.empty, .slice none 0 0, .slice none 0 0, .int .u64 0] 32 (0, 0))] [] (b := ib) (ob := Obj.cells (inR ((p1 t).2)) 70 (0, 0)) (.cells (inR ((p2 t).2)) 70 (0, 0)) (by rfl) rfl Try.func32 rfl rfl (by kernel_rfl) (fun w1 h => (by have h9 := refTake ib (p1 t).2 w1 (h.own (ib, Obj.cells (inR ((p1 t).2)) 70 (0, 0)) (show (ib, Obj.cells (inR ((p1 t).2)) 70 (0, 0)) ∈ [(s, Obj.cells (#[.string ByteArray.empty, .slice none 0 0, .slice none 0 0, .int .u64 0].setIfInBounds 0 (.string (tx (p1 t).1))) 32 (0, 0)), (ib, Obj.cells (inR ((p1 t).2)) 70 (0, 0)), (rs, Obj.cells #[.string ByteArray.empty, .slice none 0 0, .slice none 0 0, .int .u64 0] 32 (0, 0))] from (List.mem_of_getElem? (i := 1) rfl))); rw [takeT_st, p2_eq] at h9; exact h9))) ?_
  rintro o1 ko1
  refine CfgL.pure 1 [] none (Γ' := [(15, [], .pointer (some ⟨s, 1, none⟩)), (14, [], .slice (Own.a o1) ((takeT (p1 t).2).1.length) (Own.c o1)), (13, [], .pointer (some ⟨ib, 0, none⟩)), (5, [], .pointer (some ⟨s, 0, none⟩)), (4, [], .pointer (some ⟨ib, 0, none⟩)), (2, [], .pointer (some ⟨rs, 0, none⟩))]) (nd := (fun _ => [])) (by kernel_rfl) (fun _ => by kernel_rfl) trivial ?_
  refine CfgL.eff (o := _) rfl (by kernel_rfl) (by kernel_rfl) (Eff.store1 (b := s) (off := 1) (v := .slice (Own.a o1) ((takeT (p1 t).2).1.length) (Own.c o1)) rfl (by kernel_rfl) (by kernel_rfl) rfl (by kernel_rfl) 0 (cs := (#[.string ByteArray.empty, .slice none 0 0, .slice none 0 0, .int .u64 0].setIfInBounds 0 (.string (tx (p1 t).1)))) (e := 32) (by kernel_rfl) (by simp)) ?_
  rintro ⟨⟩ -
  refine CfgL.done rfl ?_
  refine Conv.cfg (Γ' := [(5, [], .pointer (some ⟨s, 0, none⟩)), (4, [], .pointer (some ⟨ib, 0, none⟩)), (2, [], .pointer (some ⟨rs, 0, none⟩))]) (Conv.mk (by kernel_rfl)) ?_
  refine Cfg.begL rfl ?_
  refine CfgL.pure 1 [] none (Γ' := [(16, [], .pointer (some ⟨ib, 0, none⟩)), (5, [], .pointer (some ⟨s, 0, none⟩)), (4, [], .pointer (some ⟨ib, 0, none⟩)), (2, [], .pointer (some ⟨rs, 0, none⟩))]) (nd := (fun _ => [])) (by kernel_rfl) (fun _ => by kernel_rfl) trivial ?_
  refine CfgL.eff (o := _) rfl (by kernel_rfl) (by kernel_rfl) (Eff.callMO (vs := [.pointer (some ⟨ib, 0, none⟩)]) 50 33 (takeT (p2 t).2).1.length (rv (takeT (p2 t).2).1) [(s, .cells ((#[.string ByteArray.empty, .slice none 0 0, .slice none 0 0, .int .u64 0].setIfInBounds 0 (.string (tx (p1 t).1))).setIfInBounds 1 (.slice (Own.a o1) ((takeT (p1 t).2).1.length) (Own.c o1))) 32 (0, 0))] [(rs, .cells #[.string ByteArray.empty, .slice none 0 0, .slice none 0 0, .int .u64 0] 32 (0, 0))] ([] ++ (Own.o 50 (rv (takeT (p1 t).2).1) o1 ++ [])) (b := ib) (ob := Obj.cells (inR ((p2 t).2)) 70 (0, 0)) (.cells (inR ((p3 t).2)) 70 (0, 0)) (by rfl) rfl Try.func32 rfl rfl (by kernel_rfl) (fun w1 h => (by have h9 := refTake ib (p2 t).2 w1 (h.own (ib, Obj.cells (inR ((p2 t).2)) 70 (0, 0)) (show (ib, Obj.cells (inR ((p2 t).2)) 70 (0, 0)) ∈ ([(s, Obj.cells ((#[.string ByteArray.empty, .slice none 0 0, .slice none 0 0, .int .u64 0].setIfInBounds 0 (.string (tx (p1 t).1))).setIfInBounds 1 (.slice (Own.a o1) ((takeT (p1 t).2).1.length) (Own.c o1))) 32 (0, 0)), (ib, Obj.cells (inR ((p2 t).2)) 70 (0, 0)), (rs, Obj.cells #[.string ByteArray.empty, .slice none 0 0, .slice none 0 0, .int .u64 0] 32 (0, 0))] ++ (Own.o 50 (rv (takeT (p1 t).2).1) o1 ++ [])) from (List.mem_append_left _ (List.mem_of_getElem? (i := 1) rfl)))); rw [takeT_st, p3_eq] at h9; exact h9))) ?_
  rintro o2 ko2
  refine CfgL.pure 1 [] none (Γ' := [(18, [], .pointer (some ⟨s, 2, none⟩)), (17, [], .slice (Own.a o2) ((takeT (p2 t).2).1.length) (Own.c o2)), (16, [], .pointer (some ⟨ib, 0, none⟩)), (5, [], .pointer (some ⟨s, 0, none⟩)), (4, [], .pointer (some ⟨ib, 0, none⟩)), (2, [], .pointer (some ⟨rs, 0, none⟩))]) (nd := (fun _ => [])) (by kernel_rfl) (fun _ => by kernel_rfl) trivial ?_
  refine CfgL.eff (o := _) rfl (by kernel_rfl) (by kernel_rfl) (Eff.store1 (b := s) (off := 2) (v := .slice (Own.a o2) ((takeT (p2 t).2).1.length) (Own.c o2)) rfl (by kernel_rfl) (by kernel_rfl) rfl (by kernel_rfl) 0 (cs := ((#[.string ByteArray.empty, .slice none 0 0, .slice none 0 0, .int .u64 0].setIfInBounds 0 (.string (tx (p1 t).1))).setIfInBounds 1 (.slice (Own.a o1) ((takeT (p1 t).2).1.length) (Own.c o1)))) (e := 32) (by kernel_rfl) (by simp)) ?_
  rintro ⟨⟩ -
  refine CfgL.done rfl ?_
  refine Conv.cfg (Γ' := [(5, [], .pointer (some ⟨s, 0, none⟩)), (4, [], .pointer (some ⟨ib, 0, none⟩)), (2, [], .pointer (some ⟨rs, 0, none⟩))]) (Conv.mk (by kernel_rfl)) ?_
  refine Cfg.begL rfl ?_
  refine CfgL.pure 1 [] none (Γ' := [(19, [], .pointer (some ⟨ib, 0, none⟩)), (5, [], .pointer (some ⟨s, 0, none⟩)), (4, [], .pointer (some ⟨ib, 0, none⟩)), (2, [], .pointer (some ⟨rs, 0, none⟩))]) (nd := (fun _ => [])) (by kernel_rfl) (fun _ => by kernel_rfl) trivial ?_
  refine CfgL.eff (o := _) rfl (by kernel_rfl) (by kernel_rfl) (Eff.callM (vs := [.pointer (some ⟨ib, 0, none⟩), .int .i64 8]) (.int .u64 ((p4 t).1 : Int)) 1 (b := ib) (ob := Obj.cells (inR ((p3 t).2)) 70 (0, 0)) (.cells (inR ((p4 t).2)) 70 (0, 0)) rfl Try.func33 rfl rfl (by kernel_rfl) (by kernel_rfl) (fun w1 h => rNumI ib (p3 t).2 8 w1 (h.own (ib, Obj.cells (inR ((p3 t).2)) 70 (0, 0)) (show (ib, Obj.cells (inR ((p3 t).2)) 70 (0, 0)) ∈ ([(s, Obj.cells (((#[.string ByteArray.empty, .slice none 0 0, .slice none 0 0, .int .u64 0].setIfInBounds 0 (.string (tx (p1 t).1))).setIfInBounds 1 (.slice (Own.a o1) ((takeT (p1 t).2).1.length) (Own.c o1))).setIfInBounds 2 (.slice (Own.a o2) ((takeT (p2 t).2).1.length) (Own.c o2))) 32 (0, 0)), (ib, Obj.cells (inR ((p3 t).2)) 70 (0, 0)), (rs, Obj.cells #[.string ByteArray.empty, .slice none 0 0, .slice none 0 0, .int .u64 0] 32 (0, 0))] ++ (Own.o 50 (rv (takeT (p2 t).2).1) o2 ++ (Own.o 50 (rv (takeT (p1 t).2).1) o1 ++ []))) from (List.mem_append_left _ (List.mem_of_getElem? (i := 1) rfl)))) (by decide))) ?_
  rintro ⟨⟩ -
  refine CfgL.pure 1 [] none (Γ' := [(21, [], .pointer (some ⟨s, 3, none⟩)), (20, [], .int .u64 ((p4 t).1 : Int)), (19, [], .pointer (some ⟨ib, 0, none⟩)), (5, [], .pointer (some ⟨s, 0, none⟩)), (4, [], .pointer (some ⟨ib, 0, none⟩)), (2, [], .pointer (some ⟨rs, 0, none⟩))]) (nd := (fun _ => [])) (by kernel_rfl) (fun _ => by kernel_rfl) trivial ?_
  refine CfgL.eff (o := _) rfl (by kernel_rfl) (by kernel_rfl) (Eff.store1 (b := s) (off := 3) (v := .int .u64 ((p4 t).1 : Int)) rfl (by kernel_rfl) (by kernel_rfl) rfl (by kernel_rfl) 0 (cs := (((#[.string ByteArray.empty, .slice none 0 0, .slice none 0 0, .int .u64 0].setIfInBounds 0 (.string (tx (p1 t).1))).setIfInBounds 1 (.slice (Own.a o1) ((takeT (p1 t).2).1.length) (Own.c o1))).setIfInBounds 2 (.slice (Own.a o2) ((takeT (p2 t).2).1.length) (Own.c o2)))) (e := 32) (by kernel_rfl) (by simp)) ?_
  rintro ⟨⟩ -
  refine CfgL.done rfl ?_
  refine Conv.cfg (Γ' := [(5, [], .pointer (some ⟨s, 0, none⟩)), (4, [], .pointer (some ⟨ib, 0, none⟩)), (2, [], .pointer (some ⟨rs, 0, none⟩))]) (Conv.mk (by kernel_rfl)) ?_
  refine Cfg.begL rfl ?_
  refine CfgL.pure 1 [] none (Γ' := [(22, [], .pointer (some ⟨ib, 0, none⟩)), (5, [], .pointer (some ⟨s, 0, none⟩)), (4, [], .pointer (some ⟨ib, 0, none⟩)), (2, [], .pointer (some ⟨rs, 0, none⟩))]) (nd := (fun _ => [])) (by kernel_rfl) (fun _ => by kernel_rfl) trivial ?_
  refine CfgL.eff (o := _) rfl (by kernel_rfl) (by kernel_rfl) (Eff.callA (vs := [.pointer (some ⟨ib, 0, none⟩)]) (.int .i64 (endF (p4 t).2)) rfl Try.func34 rfl rfl (by kernel_rfl) (fun w1 h => rEndI ib (p4 t).2 w1 (h.own (ib, Obj.cells (inR ((p4 t).2)) 70 (0, 0)) (show (ib, Obj.cells (inR ((p4 t).2)) 70 (0, 0)) ∈ ([(s, Obj.cells ((((#[.string ByteArray.empty, .slice none 0 0, .slice none 0 0, .int .u64 0].setIfInBounds 0 (.string (tx (p1 t).1))).setIfInBounds 1 (.slice (Own.a o1) ((takeT (p1 t).2).1.length) (Own.c o1))).setIfInBounds 2 (.slice (Own.a o2) ((takeT (p2 t).2).1.length) (Own.c o2))).setIfInBounds 3 (.int .u64 ((p4 t).1 : Int))) 32 (0, 0)), (ib, Obj.cells (inR ((p4 t).2)) 70 (0, 0)), (rs, Obj.cells #[.string ByteArray.empty, .slice none 0 0, .slice none 0 0, .int .u64 0] 32 (0, 0))] ++ (Own.o 50 (rv (takeT (p2 t).2).1) o2 ++ (Own.o 50 (rv (takeT (p1 t).2).1) o1 ++ []))) from (List.mem_append_left _ (List.mem_of_getElem? (i := 1) rfl)))))) ?_
  rintro ⟨⟩ -
  refine CfgL.pure 1 [] (some [2, 5, 6]) (Γ' := [(6, [], .int .i64 (endF (p4 t).2)), (5, [], .pointer (some ⟨s, 0, none⟩)), (2, [], .pointer (some ⟨rs, 0, none⟩))]) (nd := (fun _ => [])) (by kernel_rfl) (fun _ => by kernel_rfl) trivial ?_
  refine CfgL.done rfl ?_
  refine Cfg.reg rfl [2, 5, 6, 25] [] (Γ' := [(25, [], .bool ((endF (p4 t).2) == (0 : Int))), (6, [], .int .i64 (endF (p4 t).2)), (5, [], .pointer (some ⟨s, 0, none⟩)), (2, [], .pointer (some ⟨rs, 0, none⟩))]) (nd := (fun _ => [])) (fun _ => by kernel_rfl) trivial ?_
  refine Cfg.cond rfl (b := ((endF (p4 t).2) == (0 : Int))) (by kernel_rfl) (fun c1r => ?_) (fun c1r => ?_)
  · have c1 : ((endF (p4 t).2) = (0 : Int)) := (beq_iff_eq.1 c1r)
    obtain ⟨e1, e2⟩ := ends_ok c1
    rw [e1] at ko1
    rw [e2] at ko2
    refine Cfg.setO (O' := ([(s, .cells #[.string (tx (p1 t).1), .slice (Own.a o1) ((p2 t).1.length) (Own.c o1), .slice (Own.a o2) ((p3 t).1.length) (Own.c o2), .int .u64 ((p4 t).1 : Int)] 32 (0, 0)), (ib, .cells (inR ((p4 t).2)) 70 (0, 0)), (rs, .cells #[.string ByteArray.empty, .slice none 0 0, .slice none 0 0, .int .u64 0] 32 (0, 0))] ++ (Own.o 50 (rv (p3 t).1) o2 ++ (Own.o 50 (rv (p2 t).1) o1 ++ [])))) (by rw [e1, e2]; rfl) ?_
    refine Cfg.begL rfl ?_
    refine CfgL.pure 1 [(0, false, some (.agg #[.string (tx (p1 t).1), .slice (Own.a o1) ((p2 t).1.length) (Own.c o1), .slice (Own.a o2) ((p3 t).1.length) (Own.c o2), .int .u64 ((p4 t).1 : Int)]))] none (Γ' := [(26, [], .agg #[.string (tx (p1 t).1), .slice (Own.a o1) ((p2 t).1.length) (Own.c o1), .slice (Own.a o2) ((p3 t).1.length) (Own.c o2), .int .u64 ((p4 t).1 : Int)]), (25, [], .bool ((endF (p4 t).2) == (0 : Int))), (6, [], .int .i64 (endF (p4 t).2)), (5, [], .pointer (some ⟨s, 0, none⟩)), (2, [], .pointer (some ⟨rs, 0, none⟩))]) (nd := (fun S => [(∀ w1, S w1 → (loadVar 32 ⟨s, 0, none⟩).run Try.prog w1 = .ok (.agg #[.string (tx (p1 t).1), .slice (Own.a o1) ((p2 t).1.length) (Own.c o1), .slice (Own.a o2) ((p3 t).1.length) (Own.c o2), .int .u64 ((p4 t).1 : Int)]) w1)])) (by kernel_rfl) (fun _ => by kernel_rfl) ⟨(fun w1 h => h.oload 0 rfl Try.underlying32 rfl (n := 4) (by kernel_rfl) rfl), trivial⟩ ?_
    refine CfgL.eff (o := _) rfl (by kernel_rfl) (by kernel_rfl) (Eff.callA (vs := [.agg #[.string (tx (p1 t).1), .slice (Own.a o1) ((p2 t).1.length) (Own.c o1), .slice (Own.a o2) ((p3 t).1.length) (Own.c o2), .int .u64 ((p4 t).1 : Int)]]) (.int .i64 (checkF (pS t))) rfl Try.func21 rfl rfl (by kernel_rfl) (fun w1 h => refCheckS (tx (p1 t).1) (Own.a o1) (Own.a o2) (Own.c o1) (Own.c o2) (p2 t).1 (p3 t).1 (p4 t).1 (Own.o 50 (rv (p2 t).1) o1 ++ Own.o 50 (rv (p3 t).1) o2) w1 ((inR_own ko1).mono (fun e he => List.mem_append_left _ he)) ((inR_own ko2).mono (fun e he => List.mem_append_right _ he)) hw1 hw2 (h.has (fun e he => show e ∈ ([(s, Obj.cells #[.string (tx (p1 t).1), .slice (Own.a o1) ((p2 t).1.length) (Own.c o1), .slice (Own.a o2) ((p3 t).1.length) (Own.c o2), .int .u64 ((p4 t).1 : Int)] 32 (0, 0)), (ib, Obj.cells (inR ((p4 t).2)) 70 (0, 0)), (rs, Obj.cells #[.string ByteArray.empty, .slice none 0 0, .slice none 0 0, .int .u64 0] 32 (0, 0))] ++ (Own.o 50 (rv (p3 t).1) o2 ++ (Own.o 50 (rv (p2 t).1) o1 ++ []))) from by rcases List.mem_append.1 he with he | he; exact (List.mem_append_right _ (List.mem_append_right _ (List.mem_append_left _ he))); exact (List.mem_append_right _ (List.mem_append_left _ he)))) (Nat.le_trans hl1 (by decide)) (Nat.le_trans hl2 (by decide)) (nmP (p1 t).2) (nmP (p2 t).2) (by rw [tx_size]; exact nm1 t ht))) ?_
    rintro ⟨⟩ -
    refine CfgL.pure 1 [] (some [2, 5, 6]) (Γ' := [(6, [], .int .i64 (checkF (pS t))), (5, [], .pointer (some ⟨s, 0, none⟩)), (2, [], .pointer (some ⟨rs, 0, none⟩))]) (nd := (fun _ => [])) (by kernel_rfl) (fun _ => by kernel_rfl) trivial ?_
    refine CfgL.done rfl ?_
    refine Cfg.reg rfl [2, 5, 6, 29] [] (Γ' := [(29, [], .bool ((checkF (pS t)) != (0 : Int))), (6, [], .int .i64 (checkF (pS t))), (5, [], .pointer (some ⟨s, 0, none⟩)), (2, [], .pointer (some ⟨rs, 0, none⟩))]) (nd := (fun _ => [])) (fun _ => by kernel_rfl) trivial ?_
    refine Cfg.cond rfl (b := ((checkF (pS t)) != (0 : Int))) (by kernel_rfl) (fun c2r => ?_) (fun c2r => ?_)
    · have c2 : ((checkF (pS t)) ≠ (0 : Int)) := (bne_iff_ne.1 c2r)
      refine Cfg.begL rfl ?_
      refine CfgL.pure 2 [(0, false, some (.agg #[.string ByteArray.empty, .slice none 0 0, .slice none 0 0, .int .u64 0]))] none (Γ' := [(31, [], .int .i64 (checkF (pS t))), (30, [], .agg #[.string ByteArray.empty, .slice none 0 0, .slice none 0 0, .int .u64 0]), (29, [], .bool ((checkF (pS t)) != (0 : Int))), (6, [], .int .i64 (checkF (pS t))), (5, [], .pointer (some ⟨s, 0, none⟩)), (2, [], .pointer (some ⟨rs, 0, none⟩))]) (nd := (fun S => [(∀ w1, S w1 → (Instr.build 32 #[]).run Try.prog w1 = .ok (.agg #[.string ByteArray.empty, .slice none 0 0, .slice none 0 0, .int .u64 0]) w1)])) (by kernel_rfl) (fun _ => by kernel_rfl) ⟨(fun _ _ => by kernel_rfl), trivial⟩ ?_
      refine CfgL.eff (o := _) rfl (by kernel_rfl) (by kernel_rfl) (Eff.storeN (b := rs) (off := 0) (vs := #[.string ByteArray.empty, .slice none 0 0, .slice none 0 0, .int .u64 0]) (n := 4) rfl (by kernel_rfl) (by kernel_rfl) (by kernel_rfl) rfl (four_one rfl rfl rfl rfl) 2 (cs := #[.string ByteArray.empty, .slice none 0 0, .slice none 0 0, .int .u64 0]) (e := 32) (by kernel_rfl) (Nat.le_refl 4)) ?_
      rintro ⟨⟩ -
      refine CfgL.setO (O' := ([(s, .cells #[.string (tx (p1 t).1), .slice (Own.a o1) ((p2 t).1.length) (Own.c o1), .slice (Own.a o2) ((p3 t).1.length) (Own.c o2), .int .u64 ((p4 t).1 : Int)] 32 (0, 0)), (ib, .cells (inR ((p4 t).2)) 70 (0, 0)), (rs, .cells #[.string ByteArray.empty, .slice none 0 0, .slice none 0 0, .int .u64 0] 32 (0, 0))] ++ (Own.o 50 (rv (p3 t).1) o2 ++ (Own.o 50 (rv (p2 t).1) o1 ++ [])))) (congrArg (fun (xq : Array Value) => (([(s, .cells #[.string (tx (p1 t).1), .slice (Own.a o1) ((p2 t).1.length) (Own.c o1), .slice (Own.a o2) ((p3 t).1.length) (Own.c o2), .int .u64 ((p4 t).1 : Int)] 32 (0, 0)), (ib, .cells (inR ((p4 t).2)) 70 (0, 0)), (rs, .cells xq 32 (0, 0))] ++ (Own.o 50 (rv (p3 t).1) o2 ++ (Own.o 50 (rv (p2 t).1) o1 ++ []))) : List (Nat × Obj))) (rfl)) ?_
      refine CfgL.pure 1 [] (some [2, 3]) (Γ' := [(3, [], .int .i64 (checkF (pS t))), (2, [], .pointer (some ⟨rs, 0, none⟩))]) (nd := (fun _ => [])) (by kernel_rfl) (fun _ => by kernel_rfl) trivial ?_
      refine CfgL.done rfl ?_
      refine Cfg.ret rfl (rs := [.cell 2 32, .tmp 3]) rfl [.agg #[.string ByteArray.empty, .slice none 0 0, .slice none 0 0, .int .u64 0], .int .i64 (checkF (pS t))] ⟨⟨_, by kernel_rfl, (fun w1 h => h.oload 2 rfl Try.underlying32 rfl (n := 4) (by kernel_rfl) rfl)⟩, by kernel_rfl, trivial⟩ (fun w1 hp => ?_)
      have hE : parseE t = checkF (pS t) := if_neg (fun h => h c1)
      have hs : parseS t = RSt.z := if_neg (by rw [hE]; exact c2)
      rw [hE, hs]
      exact ⟨(none, none), ⟨OwnOk.none _, OwnOk.none _⟩, rfl, _, hp.sub (List.nil_sublist _)⟩
    · have c2 : ((checkF (pS t)) = (0 : Int)) := (bne_eq_false_iff_eq.1 c2r)
      refine Cfg.begL rfl ?_
      refine CfgL.pure 1 [(0, false, some (.agg #[.string (tx (p1 t).1), .slice (Own.a o1) ((p2 t).1.length) (Own.c o1), .slice (Own.a o2) ((p3 t).1.length) (Own.c o2), .int .u64 ((p4 t).1 : Int)]))] none (Γ' := [(32, [], .agg #[.string (tx (p1 t).1), .slice (Own.a o1) ((p2 t).1.length) (Own.c o1), .slice (Own.a o2) ((p3 t).1.length) (Own.c o2), .int .u64 ((p4 t).1 : Int)]), (29, [], .bool ((checkF (pS t)) != (0 : Int))), (6, [], .int .i64 (checkF (pS t))), (5, [], .pointer (some ⟨s, 0, none⟩)), (2, [], .pointer (some ⟨rs, 0, none⟩))]) (nd := (fun S => [(∀ w1, S w1 → (loadVar 32 ⟨s, 0, none⟩).run Try.prog w1 = .ok (.agg #[.string (tx (p1 t).1), .slice (Own.a o1) ((p2 t).1.length) (Own.c o1), .slice (Own.a o2) ((p3 t).1.length) (Own.c o2), .int .u64 ((p4 t).1 : Int)]) w1)])) (by kernel_rfl) (fun _ => by kernel_rfl) ⟨(fun w1 h => h.oload 0 rfl Try.underlying32 rfl (n := 4) (by kernel_rfl) rfl), trivial⟩ ?_
      refine CfgL.eff (o := _) rfl (by kernel_rfl) (by kernel_rfl) (Eff.storeN (b := rs) (off := 0) (vs := #[.string (tx (p1 t).1), .slice (Own.a o1) ((p2 t).1.length) (Own.c o1), .slice (Own.a o2) ((p3 t).1.length) (Own.c o2), .int .u64 ((p4 t).1 : Int)]) (n := 4) rfl (by kernel_rfl) (by kernel_rfl) (by kernel_rfl) rfl (four_one rfl rfl rfl rfl) 2 (cs := #[.string ByteArray.empty, .slice none 0 0, .slice none 0 0, .int .u64 0]) (e := 32) (by kernel_rfl) (Nat.le_refl 4)) ?_
      rintro ⟨⟩ -
      refine CfgL.setO (O' := ([(s, .cells #[.string (tx (p1 t).1), .slice (Own.a o1) ((p2 t).1.length) (Own.c o1), .slice (Own.a o2) ((p3 t).1.length) (Own.c o2), .int .u64 ((p4 t).1 : Int)] 32 (0, 0)), (ib, .cells (inR ((p4 t).2)) 70 (0, 0)), (rs, .cells #[.string (tx (p1 t).1), .slice (Own.a o1) ((p2 t).1.length) (Own.c o1), .slice (Own.a o2) ((p3 t).1.length) (Own.c o2), .int .u64 ((p4 t).1 : Int)] 32 (0, 0))] ++ (Own.o 50 (rv (p3 t).1) o2 ++ (Own.o 50 (rv (p2 t).1) o1 ++ [])))) (congrArg (fun (xq : Array Value) => (([(s, .cells #[.string (tx (p1 t).1), .slice (Own.a o1) ((p2 t).1.length) (Own.c o1), .slice (Own.a o2) ((p3 t).1.length) (Own.c o2), .int .u64 ((p4 t).1 : Int)] 32 (0, 0)), (ib, .cells (inR ((p4 t).2)) 70 (0, 0)), (rs, .cells xq 32 (0, 0))] ++ (Own.o 50 (rv (p3 t).1) o2 ++ (Own.o 50 (rv (p2 t).1) o1 ++ []))) : List (Nat × Obj))) (rfl)) ?_
      refine CfgL.pure 1 [] (some [2, 3]) (Γ' := [(3, [], .int .i64 0), (2, [], .pointer (some ⟨rs, 0, none⟩))]) (nd := (fun _ => [])) (by kernel_rfl) (fun _ => by kernel_rfl) trivial ?_
      refine CfgL.done rfl ?_
      refine Cfg.ret rfl (rs := [.cell 2 32, .tmp 3]) rfl [.agg #[.string (tx (p1 t).1), .slice (Own.a o1) ((p2 t).1.length) (Own.c o1), .slice (Own.a o2) ((p3 t).1.length) (Own.c o2), .int .u64 ((p4 t).1 : Int)], .int .i64 0] ⟨⟨_, by kernel_rfl, (fun w1 h => h.oload 2 rfl Try.underlying32 rfl (n := 4) (by kernel_rfl) rfl)⟩, by kernel_rfl, trivial⟩ (fun w1 hp => ?_)
      have hE : parseE t = 0 := (if_neg (fun h => h c1)).trans c2
      have hs : parseS t = pS t := if_pos hE
      have h9 := hp.sub (List.sublist_append_right _ _)
      exact parse_ret o1 o2 (tx (p1 t).1) (p2 t).1 (p3 t).1 ((p4 t).1 : Int) (hs.trans (pS_eq t)) hE ko1 ko2 h9
  · have c1 : ((endF (p4 t).2) ≠ (0 : Int)) := (beq_eq_false_iff_ne.1 c1r)
    refine Cfg.reg rfl [2, 5, 6, 29] [] (Γ' := [(29, [], .bool ((endF (p4 t).2) != (0 : Int))), (6, [], .int .i64 (endF (p4 t).2)), (5, [], .pointer (some ⟨s, 0, none⟩)), (2, [], .pointer (some ⟨rs, 0, none⟩))]) (nd := (fun _ => [])) (fun _ => by kernel_rfl) trivial ?_
    refine Cfg.condT rfl (b := ((endF (p4 t).2) != (0 : Int))) (by kernel_rfl) (bne_iff_ne.2 c1) ?_
    refine Cfg.begL rfl ?_
    refine CfgL.pure 2 [(0, false, some (.agg #[.string ByteArray.empty, .slice none 0 0, .slice none 0 0, .int .u64 0]))] none (Γ' := [(31, [], .int .i64 (endF (p4 t).2)), (30, [], .agg #[.string ByteArray.empty, .slice none 0 0, .slice none 0 0, .int .u64 0]), (29, [], .bool ((endF (p4 t).2) != (0 : Int))), (6, [], .int .i64 (endF (p4 t).2)), (5, [], .pointer (some ⟨s, 0, none⟩)), (2, [], .pointer (some ⟨rs, 0, none⟩))]) (nd := (fun S => [(∀ w1, S w1 → (Instr.build 32 #[]).run Try.prog w1 = .ok (.agg #[.string ByteArray.empty, .slice none 0 0, .slice none 0 0, .int .u64 0]) w1)])) (by kernel_rfl) (fun _ => by kernel_rfl) ⟨(fun _ _ => by kernel_rfl), trivial⟩ ?_
    refine CfgL.eff (o := _) rfl (by kernel_rfl) (by kernel_rfl) (Eff.storeN (b := rs) (off := 0) (vs := #[.string ByteArray.empty, .slice none 0 0, .slice none 0 0, .int .u64 0]) (n := 4) rfl (by kernel_rfl) (by kernel_rfl) (by kernel_rfl) rfl (four_one rfl rfl rfl rfl) 2 (cs := #[.string ByteArray.empty, .slice none 0 0, .slice none 0 0, .int .u64 0]) (e := 32) (by kernel_rfl) (Nat.le_refl 4)) ?_
    rintro ⟨⟩ -
    refine CfgL.setO (O' := ([(s, .cells ((((#[.string ByteArray.empty, .slice none 0 0, .slice none 0 0, .int .u64 0].setIfInBounds 0 (.string (tx (p1 t).1))).setIfInBounds 1 (.slice (Own.a o1) ((takeT (p1 t).2).1.length) (Own.c o1))).setIfInBounds 2 (.slice (Own.a o2) ((takeT (p2 t).2).1.length) (Own.c o2))).setIfInBounds 3 (.int .u64 ((p4 t).1 : Int))) 32 (0, 0)), (ib, .cells (inR ((p4 t).2)) 70 (0, 0)), (rs, .cells #[.string ByteArray.empty, .slice none 0 0, .slice none 0 0, .int .u64 0] 32 (0, 0))] ++ (Own.o 50 (rv (takeT (p2 t).2).1) o2 ++ (Own.o 50 (rv (takeT (p1 t).2).1) o1 ++ [])))) (congrArg (fun (xq : Array Value) => (([(s, .cells ((((#[.string ByteArray.empty, .slice none 0 0, .slice none 0 0, .int .u64 0].setIfInBounds 0 (.string (tx (p1 t).1))).setIfInBounds 1 (.slice (Own.a o1) ((takeT (p1 t).2).1.length) (Own.c o1))).setIfInBounds 2 (.slice (Own.a o2) ((takeT (p2 t).2).1.length) (Own.c o2))).setIfInBounds 3 (.int .u64 ((p4 t).1 : Int))) 32 (0, 0)), (ib, .cells (inR ((p4 t).2)) 70 (0, 0)), (rs, .cells xq 32 (0, 0))] ++ (Own.o 50 (rv (takeT (p2 t).2).1) o2 ++ (Own.o 50 (rv (takeT (p1 t).2).1) o1 ++ []))) : List (Nat × Obj))) (rfl)) ?_
    refine CfgL.pure 1 [] (some [2, 3]) (Γ' := [(3, [], .int .i64 (endF (p4 t).2)), (2, [], .pointer (some ⟨rs, 0, none⟩))]) (nd := (fun _ => [])) (by kernel_rfl) (fun _ => by kernel_rfl) trivial ?_
    refine CfgL.done rfl ?_
    refine Cfg.ret rfl (rs := [.cell 2 32, .tmp 3]) rfl [.agg #[.string ByteArray.empty, .slice none 0 0, .slice none 0 0, .int .u64 0], .int .i64 (endF (p4 t).2)] ⟨⟨_, by kernel_rfl, (fun w1 h => h.oload 2 rfl Try.underlying32 rfl (n := 4) (by kernel_rfl) rfl)⟩, by kernel_rfl, trivial⟩ (fun w1 hp => ?_)
    have hE : parseE t = endF (p4 t).2 := if_pos c1
    have hs : parseS t = RSt.z := if_neg (by rw [hE]; exact c1)
    rw [hE, hs]
    exact ⟨(none, none), ⟨OwnOk.none _, OwnOk.none _⟩, rfl, _, hp.sub (List.nil_sublist _)⟩

set_option maxRecDepth 100000 in
theorem refEqual (la lb : Option Addr) (cap cbp : Nat) (l m : List Rf) (Rl : List (Nat × Obj)) (w : World) (hI : InR Rl la l) (hJ : InR Rl lb m) (hW : W32 l) (hV : W32 m) (hR : Has w Rl) (hn : l.length ≤ maxLen) (hn2 : m.length ≤ maxLen) :
    Calls Try.prog 37 #[.slice la l.length cap, .slice lb m.length cbp] w fun e w' => e = .returned (.bool (eqR l m)) ∧ Ext [] w w' := by
  unfold maxLen at hn hn2
  refine enter (vs := [.slice la l.length cap, .slice lb m.length cbp]) [] Rl [] Try.func37 rfl (by kernel_rfl) (HP.ofHas hR) ?_
  refine Cfg.reg rfl [0, 1] [] (Γ' := [(0, [], .slice la l.length cap), (1, [], .slice lb m.length cbp)]) (nd := (fun _ => [])) (fun _ => by kernel_rfl) trivial ?_
  refine Cfg.reg rfl [0, 1, 10] [] (Γ' := [(10, [], .bool ((l.length : Int) != (m.length : Int))), (0, [], .slice la l.length cap), (1, [], .slice lb m.length cbp)]) (nd := (fun _ => [])) (fun _ => by kernel_rfl) trivial ?_
  refine Cfg.cond rfl (b := ((l.length : Int) != (m.length : Int))) (by kernel_rfl) (fun c1r => ?_) (fun c1r => ?_)
  · have c1 : ((l.length : Int) ≠ (m.length : Int)) := (bne_iff_ne.1 c1r)
    refine Cfg.reg rfl [4] [] (Γ' := [(4, [], .bool false)]) (nd := (fun _ => [])) (fun _ => by kernel_rfl) trivial ?_
    refine Cfg.ret rfl (rs := [.tmp 4]) rfl [.bool false] ⟨by kernel_rfl, trivial⟩ (fun w1 hp => ?_)
    exact ⟨by rw [eqR_no (by omega)]; rfl, hp.ext⟩
  · have c1 : ((l.length : Int) = (m.length : Int)) := (bne_eq_false_iff_eq.1 c1r)
    refine Cfg.reg rfl [0, 1, 12, 13] [] (Γ' := [(13, [], .int .i64 0), (12, [], .int .i64 (l.length : Int)), (0, [], .slice la l.length cap), (1, [], .slice lb m.length cbp)]) (nd := (fun _ => [])) (fun _ => by kernel_rfl) trivial ?_
    refine Cfg.loop rfl (ι := Nat) (fun (i : Nat) => [(13, [], .int .i64 (i : Int)), (12, [], .int .i64 (l.length : Int)), (0, [], .slice la l.length cap), (1, [], .slice lb m.length cbp)]) (fun (i : Nat) => []) (fun (i : Nat) => (i ≤ l.length) ∧ (∀ j, j < i → rfEq (l.getD j rz) (m.getD j rz) = true)) (fun (i : Nat) => l.length - i) 0 ?_ (Conv.mk (by kernel_rfl)) .slnil ?_
    · exact ⟨Nat.zero_le _, fun j h => absurd h (Nat.not_lt_zero j)⟩
    · rintro i ⟨hi, hall⟩
      refine Cfg.reg rfl [0, 1, 12, 13, 14] [] (Γ' := [(14, [], .bool (decide ((i : Int) < (l.length : Int)))), (13, [], .int .i64 (i : Int)), (12, [], .int .i64 (l.length : Int)), (0, [], .slice la l.length cap), (1, [], .slice lb m.length cbp)]) (nd := (fun _ => [])) (fun _ => by kernel_rfl) trivial ?_
      refine Cfg.cond rfl (b := (decide ((i : Int) < (l.length : Int)))) (by kernel_rfl) (fun c2r => ?_) (fun c2r => ?_)
      · have c2 : ((i : Int) < (l.length : Int)) := (of_decide_eq_true c2r)
        refine Cfg.reg rfl [0, 1, 5, 12, 13] [] (Γ' := [(5, [], .int .i64 (i : Int)), (13, [], .int .i64 (i : Int)), (12, [], .int .i64 (l.length : Int)), (0, [], .slice la l.length cap), (1, [], .slice lb m.length cbp)]) (nd := (fun _ => [])) (fun _ => by kernel_rfl) trivial ?_
        obtain ⟨sb, off, cs, te, fre, rfl, hmem, hcs⟩ := hI (by omega)
        obtain ⟨sb2, off2, cs2, te2, fre2, rfl, hmem2, hcs2⟩ := hJ (by omega)
        refine Conv.cfg (Γ' := [(5, [], .int .i64 (i : Int)), (13, [], .int .i64 (i : Int)), (12, [], .int .i64 (l.length : Int)), (0, [], .slice (some ⟨sb, off, none⟩) l.length cap), (1, [], .slice (some ⟨sb2, off2, none⟩) m.length cbp)]) (Conv.mk (by kernel_rfl)) ?_
        refine Cfg.regD rfl (by kernel_rfl) [0, 1, 12, 13, 24] [(0, false, none), (0, false, none), (0, false, none), (0, false, some (.agg (rc (l.getD i rz)).toArray)), (0, false, none), (0, false, none), (0, false, none), (0, false, some (.agg (rc (m.getD i rz)).toArray)), (0, false, some (.bool (rfEq (l.getD i rz) (m.getD i rz))))] (Γ' := [(24, [], .bool (!(rfEq (l.getD i rz) (m.getD i rz)))), (13, [], .int .i64 (i : Int)), (12, [], .int .i64 (l.length : Int)), (0, [], .slice (some ⟨sb, off, none⟩) l.length cap), (1, [], .slice (some ⟨sb2, off2, none⟩) m.length cbp)]) (nd := (fun S => [(0 ≤ (i : Int) ∧ (i : Int) < (l.length : Int)), (∀ w1, S w1 → (loadVar 50 ⟨sb, (addO off (i * 33)), none⟩).run Try.prog w1 = .ok (.agg (rc (l.getD i rz)).toArray) w1), (0 ≤ (i : Int) ∧ (i : Int) < (m.length : Int)), (∀ w1, S w1 → (loadVar 50 ⟨sb2, (addO off2 (i * 33)), none⟩).run Try.prog w1 = .ok (.agg (rc (m.getD i rz)).toArray) w1), (∀ w1, S w1 → (Op.equal 50 (.agg (rc (l.getD i rz)).toArray) (.agg (rc (m.getD i rz)).toArray)).run Try.prog w1 = .ok (rfEq (l.getD i rz) (m.getD i rz)) w1)])) (by kernel_rfl) (by kernel_rfl) (fun _ => by kernel_rfl) ⟨(by omega), (fun w1 h => load_list Try.underlying50 rfl (by kernel_rfl) (rc_len (hW.at i)) (fun j v hj => by rw [addO_eq]; exact (cell_cells (h.ro _ hmem)).trans (ref_cell hW hcs (by omega) hj))), (by omega), (fun w1 h => load_list Try.underlying50 rfl (by kernel_rfl) (rc_len (hV.at i)) (fun j v hj => by rw [addO_eq]; exact (cell_cells (h.ro _ hmem2)).trans (ref_cell hV hcs2 (by omega) hj))), (fun w1 _ => ref_equal (hW.at i) (hV.at i) w1), trivial⟩ ?_
        refine Cfg.cond rfl (b := (!(rfEq (l.getD i rz) (m.getD i rz)))) (by kernel_rfl) (fun c3r => ?_) (fun c3r => ?_)
        · have c3 : ((rfEq (l.getD i rz) (m.getD i rz)) = false) := (notT c3r)
          refine Cfg.reg rfl [4] [] (Γ' := [(4, [], .bool false)]) (nd := (fun _ => [])) (fun _ => by kernel_rfl) trivial ?_
          refine Cfg.ret rfl (rs := [.tmp 4]) rfl [.bool false] ⟨by kernel_rfl, trivial⟩ (fun w1 hp => ?_)
          exact ⟨by rw [eqR_at (by omega) c3]; rfl, hp.ext⟩
        · have c3 : ((rfEq (l.getD i rz) (m.getD i rz)) = true) := (notF c3r)
          refine Cfg.reg rfl [0, 1, 12, 13] [] (Γ' := [(13, [], .int .i64 ((i : Int) + 1)), (12, [], .int .i64 (l.length : Int)), (0, [], .slice (some ⟨sb, off, none⟩) l.length cap), (1, [], .slice (some ⟨sb2, off2, none⟩) m.length cbp)]) (nd := (fun _ => [((-9223372036854775808 : Int) ≤ ((i : Int) + 1) ∧ ((i : Int) + 1) ≤ 9223372036854775807)])) (fun _ => by kernel_rfl) ⟨(by omega), trivial⟩ ?_
          refine Cfg.again rfl (i + 1) ⟨by omega, fun j hj => by rcases Nat.lt_or_ge j i with h1 | h1; exact hall j h1; rw [show j = i by omega]; exact c3⟩ (by omega) (Conv.mk (by kernel_rfl)) .slnil
      · have c2 : (¬ ((i : Int) < (l.length : Int))) := (of_decide_eq_false c2r)
        refine Cfg.reg rfl [4] [] (Γ' := [(4, [], .bool true)]) (nd := (fun _ => [])) (fun _ => by kernel_rfl) trivial ?_
        refine Cfg.ret rfl (rs := [.tmp 4]) rfl [.bool true] ⟨by kernel_rfl, trivial⟩ (fun w1 hp => ?_)
        exact ⟨by rw [eqR_yes (by omega) (fun j hj => hall j (by omega))]; rfl, hp.ext⟩

set_option maxRecDepth 100000 in
theorem refSame (hd hd2 : ByteArray) (la lb ta tb : Option Addr) (cap cbp ca cb : Nat) (l m lt mt : List Rf) (nx ny : Int) (Rl : List (Nat × Obj)) (w : World) (hI : InR Rl la l) (hJ : InR Rl lb m) (hIt : InR Rl ta lt) (hJt : InR Rl tb mt) (hW : W32 l) (hV : W32 m) (hWt : W32 lt) (hVt : W32 mt) (hR : Has w Rl) (hn : l.length ≤ maxLen) (hn2 : m.length ≤ maxLen) (hn3 : lt.length ≤ maxLen) (hn4 : mt.length ≤ maxLen) :
    Calls Try.prog 11 #[.agg #[.string hd, .slice la l.length cap, .slice ta lt.length ca, .int .u64 nx], .agg #[.string hd2, .slice lb m.length cbp, .slice tb mt.length cb, .int .u64 ny]] w fun e w' => e = .returned (.bool (hd.toList == hd2.toList && eqR l m && eqR lt mt && nx == ny)) ∧ Ext [] w w' := by
  refine enter (vs := [.agg #[.string hd, .slice la l.length cap, .slice ta lt.length ca, .int .u64 nx], .agg #[.string hd2, .slice lb m.length cbp, .slice tb mt.length cb, .int .u64 ny]]) [] Rl [] Try.func11 rfl (by kernel_rfl) (HP.ofHas hR) ?_
  refine Cfg.begL rfl ?_
  refine CfgL.eff (o := _) rfl (by kernel_rfl) (by kernel_rfl) (Eff.box (v := .agg #[.string hd, .slice la l.length cap, .slice ta lt.length ca, .int .u64 nx]) rfl (by kernel_rfl)) ?_
  rintro b1 ⟨hb1, nb1⟩
  refine CfgL.eff (o := _) rfl (by kernel_rfl) (by kernel_rfl) (Eff.box (v := .agg #[.string hd2, .slice lb m.length cbp, .slice tb mt.length cb, .int .u64 ny]) rfl (by kernel_rfl)) ?_
  rintro b2 ⟨hb2, nb2⟩
  refine CfgL.pure 1 [] (some [2, 3]) (Γ' := [(3, [], .pointer (some ⟨b2, 0, none⟩)), (2, [], .pointer (some ⟨b1, 0, none⟩))]) (nd := (fun _ => [])) (by kernel_rfl) (fun _ => by kernel_rfl) trivial ?_
  refine CfgL.done rfl ?_
  refine Cfg.begL rfl ?_
  refine CfgL.pure 6 [(0, false, none), (0, false, some (.string hd)), (0, false, none), (0, false, some (.string hd2))] none (Γ' := [(10, [], .bool (hd.toList == hd2.toList)), (9, [], .bool (hd.toList == hd2.toList)), (8, [], .string hd2), (7, [], .pointer (some ⟨b2, 0, none⟩)), (6, [], .string hd), (5, [], .pointer (some ⟨b1, 0, none⟩)), (3, [], .pointer (some ⟨b2, 0, none⟩)), (2, [], .pointer (some ⟨b1, 0, none⟩))]) (nd := (fun S => [(∀ w1, S w1 → w1.cell? ⟨b1, 0, none⟩ = some (.string hd)), (∀ w1, S w1 → w1.cell? ⟨b2, 0, none⟩ = some (.string hd2))])) (by kernel_rfl) (fun _ => by kernel_rfl) ⟨(fun w1 h => h.ocell 1 rfl rfl), (fun w1 h => h.ocell 0 rfl rfl), trivial⟩ ?_
  by_cases c1 : (hd.toList == hd2.toList) = true
  · have c1k : (hd.toList == hd2.toList) = true := c1
    have c1q : ((hd.toList == hd2.toList) = true) := c1k
    refine CfgL.known 10 (b := (hd.toList == hd2.toList)) (by kernel_rfl) true c1k ?_
    refine CfgL.pure 4 [(1, false, none), (1, false, some (.slice la l.length cap)), (1, false, none), (1, false, some (.slice lb m.length cbp))] none (Γ' := [(14, [], .slice lb m.length cbp), (13, [], .pointer (some ⟨b2, 1, none⟩)), (12, [], .slice la l.length cap), (11, [], .pointer (some ⟨b1, 1, none⟩)), (10, [], .bool true), (9, [], .bool (hd.toList == hd2.toList)), (8, [], .string hd2), (7, [], .pointer (some ⟨b2, 0, none⟩)), (6, [], .string hd), (5, [], .pointer (some ⟨b1, 0, none⟩)), (3, [], .pointer (some ⟨b2, 0, none⟩)), (2, [], .pointer (some ⟨b1, 0, none⟩))]) (nd := (fun S => [((.bool true : Value) = .bool true), ((.bool true : Value) = .bool true), (∀ w1, S w1 → w1.cell? ⟨b1, 1, none⟩ = some (.slice la l.length cap)), ((.bool true : Value) = .bool true), ((.bool true : Value) = .bool true), (∀ w1, S w1 → w1.cell? ⟨b2, 1, none⟩ = some (.slice lb m.length cbp))])) (by kernel_rfl) (fun _ => by kernel_rfl) ⟨rfl, rfl, (fun w1 h => h.ocell 1 rfl rfl), rfl, rfl, (fun w1 h => h.ocell 0 rfl rfl), trivial⟩ ?_
    refine CfgL.eff (o := _) rfl (by kernel_rfl) (by kernel_rfl) (Eff.callA (vs := [.slice la l.length cap, .slice lb m.length cbp]) (.bool (eqR l m)) rfl Try.func37 rfl rfl (by kernel_rfl) (fun w1 h => refEqual la lb cap cbp l m Rl w1 hI hJ hW hV (h.hasR (fun e he => he)) hn hn2)) ?_
    rintro ⟨⟩ -
    refine CfgL.pure 2 [] none (Γ' := [(17, [], .bool (eqR l m)), (16, [], .bool (eqR l m)), (15, [], .bool (eqR l m)), (14, [], .slice lb m.length cbp), (13, [], .pointer (some ⟨b2, 1, none⟩)), (12, [], .slice la l.length cap), (11, [], .pointer (some ⟨b1, 1, none⟩)), (10, [], .bool true), (9, [], .bool (hd.toList == hd2.toList)), (8, [], .string hd2), (7, [], .pointer (some ⟨b2, 0, none⟩)), (6, [], .string hd), (5, [], .pointer (some ⟨b1, 0, none⟩)), (3, [], .pointer (some ⟨b2, 0, none⟩)), (2, [], .pointer (some ⟨b1, 0, none⟩))]) (nd := (fun _ => [])) (by kernel_rfl) (fun _ => by kernel_rfl) trivial ?_
    by_cases c2 : (eqR l m) = true
    · have c2k : (eqR l m) = true := c2
      have c2q : ((eqR l m) = true) := c2k
      refine CfgL.known 17 (b := (eqR l m)) (by kernel_rfl) true c2k ?_
      refine CfgL.pure 4 [(1, false, none), (1, false, some (.slice ta lt.length ca)), (1, false, none), (1, false, some (.slice tb mt.length cb))] none (Γ' := [(21, [], .slice tb mt.length cb), (20, [], .pointer (some ⟨b2, 2, none⟩)), (19, [], .slice ta lt.length ca), (18, [], .pointer (some ⟨b1, 2, none⟩)), (17, [], .bool true), (16, [], .bool (eqR l m)), (15, [], .bool (eqR l m)), (14, [], .slice lb m.length cbp), (13, [], .pointer (some ⟨b2, 1, none⟩)), (12, [], .slice la l.length cap), (11, [], .pointer (some ⟨b1, 1, none⟩)), (10, [], .bool true), (9, [], .bool (hd.toList == hd2.toList)), (8, [], .string hd2), (7, [], .pointer (some ⟨b2, 0, none⟩)), (6, [], .string hd), (5, [], .pointer (some ⟨b1, 0, none⟩)), (3, [], .pointer (some ⟨b2, 0, none⟩)), (2, [], .pointer (some ⟨b1, 0, none⟩))]) (nd := (fun S => [((.bool true : Value) = .bool true), ((.bool true : Value) = .bool true), (∀ w1, S w1 → w1.cell? ⟨b1, 2, none⟩ = some (.slice ta lt.length ca)), ((.bool true : Value) = .bool true), ((.bool true : Value) = .bool true), (∀ w1, S w1 → w1.cell? ⟨b2, 2, none⟩ = some (.slice tb mt.length cb))])) (by kernel_rfl) (fun _ => by kernel_rfl) ⟨rfl, rfl, (fun w1 h => h.ocell 1 rfl rfl), rfl, rfl, (fun w1 h => h.ocell 0 rfl rfl), trivial⟩ ?_
      refine CfgL.eff (o := _) rfl (by kernel_rfl) (by kernel_rfl) (Eff.callA (vs := [.slice ta lt.length ca, .slice tb mt.length cb]) (.bool (eqR lt mt)) rfl Try.func37 rfl rfl (by kernel_rfl) (fun w1 h => refEqual ta tb ca cb lt mt Rl w1 hIt hJt hWt hVt (h.hasR (fun e he => he)) hn3 hn4)) ?_
      rintro ⟨⟩ -
      refine CfgL.pure 9 [(0, false, none), (0, false, none), (0, false, none), (0, false, some (.int .u64 nx)), (0, false, none), (0, false, some (.int .u64 ny))] (some [4]) (Γ' := [(4, [], .bool ((eqR lt mt) && (nx == ny)))]) (nd := (fun S => [((.bool (eqR lt mt) : Value) = .bool true → (∀ w1, S w1 → w1.cell? ⟨b1, 3, none⟩ = some (.int .u64 nx))), ((.bool (eqR lt mt) : Value) = .bool true → (∀ w1, S w1 → w1.cell? ⟨b2, 3, none⟩ = some (.int .u64 ny)))])) (by kernel_rfl) (fun _ => by kernel_rfl) ⟨(fun g0 => have q0 : ((eqR lt mt) = true) := (boolV g0); (fun w1 h => h.ocell 1 rfl rfl)), (fun g0 => have q0 : ((eqR lt mt) = true) := (boolV g0); (fun w1 h => h.ocell 0 rfl rfl)), trivial⟩ ?_
      refine CfgL.done rfl ?_
      refine Cfg.ret rfl (rs := [.tmp 4]) rfl [.bool ((eqR lt mt) && (nx == ny))] ⟨by kernel_rfl, trivial⟩ (fun w1 hp => ?_)
      exact ⟨by simp_all [resOf], hp.ext⟩
    · have c2k : (eqR l m) = false := (by simpa using c2)
      have c2q : ((eqR l m) = false) := c2k
      refine CfgL.known 17 (b := (eqR l m)) (by kernel_rfl) false c2k ?_
      refine CfgL.pure 14 [(2, false, none), (2, false, none), (2, false, none), (2, false, none), (2, false, none), (0, false, none), (0, false, none), (2, false, none), (2, false, none), (2, false, none), (2, false, none), (2, false, none)] (some [4]) (Γ' := [(4, [], .bool false)]) (nd := (fun _ => [((.bool false : Value) ≠ .bool true), ((.bool false : Value) ≠ .bool true), ((.bool false : Value) ≠ .bool true), ((.bool false : Value) ≠ .bool true), ((.bool false : Value) ≠ .bool true), ((.bool false : Value) ≠ .bool true), ((.bool false : Value) ≠ .bool true), ((.bool false : Value) ≠ .bool true), ((.bool false : Value) ≠ .bool true), ((.bool false : Value) ≠ .bool true)])) (by kernel_rfl) (fun _ => by kernel_rfl) ⟨(by simp), (by simp), (by simp), (by simp), (by simp), (by simp), (by simp), (by simp), (by simp), (by simp), trivial⟩ ?_
      refine CfgL.done rfl ?_
      refine Cfg.ret rfl (rs := [.tmp 4]) rfl [.bool false] ⟨by kernel_rfl, trivial⟩ (fun w1 hp => ?_)
      exact ⟨by simp_all [resOf], hp.ext⟩
  · have c1k : (hd.toList == hd2.toList) = false := (by simpa using c1)
    have c1q : ((hd.toList == hd2.toList) = false) := c1k
    refine CfgL.known 10 (b := (hd.toList == hd2.toList)) (by kernel_rfl) false c1k ?_
    refine CfgL.pure 21 [(2, false, none), (2, false, none), (2, false, none), (2, false, none), (2, false, none), (0, false, none), (0, false, none), (2, false, none), (2, false, none), (2, false, none), (2, false, none), (2, false, none), (0, false, none), (0, false, none), (2, false, none), (2, false, none), (2, false, none), (2, false, none), (2, false, none)] (some [4]) (Γ' := [(4, [], .bool false)]) (nd := (fun _ => [((.bool false : Value) ≠ .bool true), ((.bool false : Value) ≠ .bool true), ((.bool false : Value) ≠ .bool true), ((.bool false : Value) ≠ .bool true), ((.bool false : Value) ≠ .bool true), ((.bool false : Value) ≠ .bool true), ((.bool false : Value) ≠ .bool true), ((.bool false : Value) ≠ .bool true), ((.bool false : Value) ≠ .bool true), ((.bool false : Value) ≠ .bool true), ((.bool false : Value) ≠ .bool true), ((.bool false : Value) ≠ .bool true), ((.bool false : Value) ≠ .bool true), ((.bool false : Value) ≠ .bool true), ((.bool false : Value) ≠ .bool true)])) (by kernel_rfl) (fun _ => by kernel_rfl) ⟨(by simp), (by simp), (by simp), (by simp), (by simp), (by simp), (by simp), (by simp), (by simp), (by simp), (by simp), (by simp), (by simp), (by simp), (by simp), trivial⟩ ?_
    refine CfgL.done rfl ?_
    refine Cfg.ret rfl (rs := [.tmp 4]) rfl [.bool false] ⟨by kernel_rfl, trivial⟩ (fun w1 hp => ?_)
    exact ⟨by simp_all [resOf], hp.ext⟩

end Go.Proofs.Ytejgpniaoccpoaa
