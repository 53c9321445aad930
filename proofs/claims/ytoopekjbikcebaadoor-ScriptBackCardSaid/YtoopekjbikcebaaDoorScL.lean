/- script: the laws' example. -/
import Derived.Test.YtoopekjbikcebaaDoorScK
namespace Go.Proofs.YtoopekjbikcebaaDoor
open K
set_option linter.unusedVariables false

/-! The example -/
def sA : Stp := (3, 3, 1, 2, 0, 0)
def eT : List UInt8 := [101, 100, 103, 101, 32, 51, 32, 49, 32, 50, 32, 48, 32, 48]
theorem sA_E : lineE sA = 0 := rfl
theorem sA_line : lineT sA = eT := by
  rw [lineT_eq]
  show joinT wdA3 [3, 1, 2, 0, 0] = _
  unfold joinT
  simp only [List.flatMap_cons, List.flatMap_nil, spD, Lib.decDigits_one (show 3 < 10 by decide), Lib.decDigits_one (show 1 < 10 by decide), Lib.decDigits_one (show 2 < 10 by decide), Lib.decDigits_one (show 0 < 10 by decide)]
  rfl
theorem sA_R : lineR sA = eT := by rw [lineR_ok sA_E, sA_line]
theorem sA_ok : Kok sA := ⟨⟨by decide, by decide⟩, by decide, by decide, by decide, by decide, by decide⟩
theorem sA_parse : parseT (eT ++ [10]) = ([sA], 0, 0) := by
  have h := back1 (l := [sA]) (by decide) (fun s hs => by rw [List.mem_singleton.1 hs]; exact sA_ok.2) rfl
  have e : printT [sA] = eT ++ [10] := by
    show (lineT sA ++ [10]) ++ [] = _
    rw [sA_line, List.append_nil]
  rw [e] at h; exact h
/-! All lines, one after the other -/
def allT (l : List Stp) : List UInt8 := l.flatMap fun s => lineR s ++ [10]
theorem allT_next {l : List Stp} {i : Nat} (h : i < l.length) : allT (l.take (i + 1)) = allT (l.take i) ++ (lineR (l.getD i sz0) ++ [10]) := by
  unfold allT
  rw [List.take_succ_eq_append_getElem h, List.flatMap_append, List.flatMap_cons, List.flatMap_nil, List.append_nil, List.getD_eq_getElem?_getD, List.getElem?_eq_getElem h]; rfl
theorem allT_len : ∀ l : List Stp, (∀ s ∈ l, Kok s) → (allT l).length ≤ 71 * l.length
  | [], _ => Nat.le_refl _
  | s :: l, h => by
    have h1 := allT_len l (fun x hx => h x (List.mem_cons_of_mem _ hx))
    have h2 := lineR_len (h s (List.mem_cons_self ..)).2
    show ((lineR s ++ [10]) ++ allT l).length ≤ _
    rw [List.length_append, List.length_append, List.length_cons, List.length_cons, List.length_nil]; omega
theorem allT_take {l : List Stp} (h : ∀ s ∈ l, Kok s) (i : Nat) : (allT (l.take i)).length ≤ 71 * l.length := by
  have h1 := allT_len (l.take i) (fun s hs => h s (List.mem_of_mem_take hs))
  have h2 : (l.take i).length ≤ l.length := by rw [List.length_take]; omega
  omega
theorem printE_cons (s : Stp) (l : List Stp) : printE (s :: l) = if lineE s = 0 then printE l else lineE s := rfl
theorem printE_app2 : ∀ (a b : List Stp), printE a ≠ 0 → printE (a ++ b) = printE a
  | [], b, h => absurd rfl h
  | s :: a, b, h => by
    rw [printE_cons] at h
    show (if lineE s = 0 then printE (a ++ b) else lineE s) = if lineE s = 0 then printE a else lineE s
    by_cases hs : lineE s = 0
    · rw [if_pos hs] at h
      rw [if_pos hs, if_pos hs, printE_app2 a b h]
    · rw [if_neg hs, if_neg hs]
theorem printE_one (s : Stp) : printE [s] = lineE s := by
  show (if lineE s = 0 then (0 : Int) else lineE s) = _
  by_cases h : lineE s = 0
  · rw [if_pos h, h]
  · rw [if_neg h]
theorem printE_take {l : List Stp} {i : Nat} (h : i < l.length) : printE (l.take (i + 1)) = if printE (l.take i) = 0 then lineE (l.getD i sz0) else printE (l.take i) := by
  have e : l.take (i + 1) = l.take i ++ [l.getD i sz0] := by
    rw [List.take_succ_eq_append_getElem h, List.getD_eq_getElem?_getD, List.getElem?_eq_getElem h]; rfl
  rw [e]
  by_cases h0 : printE (l.take i) = 0
  · rw [if_pos h0, printE_app _ _ h0, printE_one]
  · rw [if_neg h0, printE_app2 _ _ h0]
theorem printE_mem : ∀ {l : List Stp}, printE l = 0 → ∀ s ∈ l, lineE s = 0
  | [], _, s, hs => by cases hs
  | x :: l, h, s, hs => by
    rw [printE_cons] at h
    have hx : lineE x = 0 := by
      by_cases hx : lineE x = 0
      · exact hx
      · rw [if_neg hx] at h; exact h
    rw [if_pos hx] at h
    rcases List.mem_cons.1 hs with rfl | hs
    · exact hx
    · exact printE_mem h s hs
theorem allT_ok : ∀ {l : List Stp}, printE l = 0 → allT l = printT l
  | [], _ => rfl
  | x :: l, h => by
    have hx := printE_mem h x (List.mem_cons_self ..)
    rw [printE_cons, if_pos hx] at h
    show (lineR x ++ [10]) ++ allT l = (lineT x ++ [10]) ++ printT l
    rw [lineR_ok hx, allT_ok h]
theorem printR_yes {l : List Stp} (h : printE l = 0) : printR l = printT l := if_pos h
theorem printR_no {l : List Stp} (h : printE l ≠ 0) : printR l = [] := if_neg h
theorem printT_ge : ∀ l : List Stp, l.length ≤ (printT l).length
  | [] => Nat.le_refl _
  | s :: l => by
    have h1 := printT_ge l
    show l.length + 1 ≤ ((lineT s ++ [10]) ++ printT l).length
    rw [List.length_append, List.length_append, List.length_cons, List.length_nil]; omega
theorem kind_of {s : Stp} (h : lineE s = 0) : 1 ≤ s.1 ∧ s.1 ≤ 4 := by
  unfold lineE at h
  split at h
  · exact absurd h (by decide)
  · omega
theorem parse_row (t : List UInt8) : (∀ s ∈ (parseT t).1, Kok s) ∧ (parseT t).1.length ≤ t.length := by
  unfold parseT; split
  · exact ⟨fun s hs => (by cases hs), Nat.zero_le _⟩
  · rcases print_parse t [] 1 [] with ⟨_, _, l, h3, h4, h5, h6⟩ | h
    · rw [h3, List.nil_append]
      rw [List.nil_append] at h4
      refine ⟨fun s hs => ⟨?_, h6 s hs⟩, by rw [h4]; exact printT_ge l⟩
      have := kind_of (printE_mem h5 s hs)
      omega
    · rw [h.2]; exact ⟨fun s hs => (by cases hs), Nat.zero_le _⟩

set_option maxRecDepth 100000 in
set_option maxHeartbeats 2000000 in
theorem sAwake (t0 : TypeId) (fr0 : Nat × Nat) (w : World) (hR : Has w [(0, .cells pv t0 fr0)]) :
    Calls Tryd.prog 5 #[] w fun e w' => e = .returned (.bool true) ∧ Ext [] w w' := by
  refine enter (vs := []) [] [(0, .cells pv t0 fr0)] [] Tryd.func5 rfl (by kernel_rfl) (HP.ofHas hR) ?_
  refine Cfg.reg rfl [] [] (Γ' := []) (nd := (fun _ => [])) (fun _ => by kernel_rfl) trivial ?_
  refine Cfg.begL rfl ?_
  refine CfgL.pure 1 [(0, false, some (.agg (stL sA).toArray))] none (Γ' := [(7, [], .agg (stL sA).toArray)]) (nd := (fun S => [(∀ w1, S w1 → (Instr.build 26 #[(0, .int .i64 3), (1, .int .u32 3), (2, .int .u32 1), (3, .int .u32 2)]).run Tryd.prog w1 = .ok (.agg (stL sA).toArray) w1)])) (by kernel_rfl) (fun _ => by kernel_rfl) ⟨(fun _ _ => by kernel_rfl), trivial⟩ ?_
  refine CfgL.eff (o := _) rfl (by kernel_rfl) (by kernel_rfl) (Eff.callA (vs := [.agg (stL sA).toArray]) (.tuple #[.string (tx eT), .int .i64 0]) rfl Tryd.func6 rfl rfl (by kernel_rfl) (fun w1 h => by have h9 := sLine sA t0 fr0 w1 sA_ok.1 sA_ok.2 (fun e he => by rw [List.mem_singleton.1 he]; exact h.ro _ (List.mem_cons_self ..)); rw [sA_R, sA_E] at h9; exact h9)) ?_
  rintro ⟨⟩ -
  refine CfgL.pure 5 [] (some [1, 2]) (Γ' := [(2, [], .int .i64 0), (1, [], .string (tx eT))]) (nd := (fun _ => [])) (by kernel_rfl) (fun _ => by kernel_rfl) trivial ?_
  refine CfgL.done rfl ?_
  refine Cfg.begL rfl ?_
  refine CfgL.pure 2 [] (some [1, 2, 13]) (Γ' := [(13, [], .string ((tx eT) ++ (⟨#[10]⟩ : ByteArray))), (2, [], .int .i64 0), (1, [], .string (tx eT))]) (nd := (fun _ => [((tx eT).size + 1 ≤ 9223372036854775807)])) (by kernel_rfl) (fun _ => by kernel_rfl) ⟨(by rw [tx_size]; decide), trivial⟩ ?_
  refine CfgL.eff (o := _) rfl (by kernel_rfl) (by kernel_rfl) (Eff.callH (vs := [.string ((tx eT) ++ (⟨#[10]⟩ : ByteArray))]) (fun o : K.Own => .tuple #[.slice (Own.a o) ([sA]).length (Own.c o), .int .i64 0, .int .i64 0]) [] (fun o => Own.o 26 (sv ([sA])) o) (fun o => OwnOk o 6 ([sA]).length (sv ([sA]))) [] [] rfl rfl Tryd.func9 rfl rfl (by kernel_rfl) (fun w1 h _ _ => by have h9 := sParse (tx (eT ++ [10])) w1 (by rw [tx_size]; decide); rw [tx_list, sA_parse] at h9; rw [show (tx eT ++ (⟨#[10]⟩ : ByteArray)) = tx (eT ++ [10]) from tx_app eT [10]]; exact h9)) ?_
  rintro om hom
  refine CfgL.pure 7 [] (some [1, 2, 3, 5]) (Γ' := [(5, [], .int .i64 0), (3, [], .slice (Own.a om) 1 (Own.c om)), (2, [], .int .i64 0), (1, [], .string (tx eT))]) (nd := (fun _ => [])) (by kernel_rfl) (fun _ => by kernel_rfl) trivial ?_
  refine CfgL.done rfl ?_
  refine Cfg.reg rfl [0] [(0, false, none), (0, false, none), (0, false, none), (1, false, none), (1, false, none)] (Γ' := [(0, [], .bool ((((tx eT).toList == (⟨#[101, 100, 103, 101, 32, 51, 32, 49, 32, 50, 32, 48, 32, 48]⟩ : ByteArray).toList) && true) && ((1 : Int) == (1 : Int))))]) (nd := (fun _ => [((.bool true : Value) = .bool true), ((.bool true : Value) = .bool true)])) (fun _ => by kernel_rfl) ⟨rfl, rfl, trivial⟩ ?_
  refine Cfg.ret rfl (rs := [.tmp 0]) rfl [.bool ((((tx eT).toList == (⟨#[101, 100, 103, 101, 32, 51, 32, 49, 32, 50, 32, 48, 32, 48]⟩ : ByteArray).toList) && true) && ((1 : Int) == (1 : Int)))] ⟨by kernel_rfl, trivial⟩ (fun w1 hp => ?_)
  exact ⟨by rw [show ((tx eT).toList == (⟨#[101, 100, 103, 101, 32, 51, 32, 49, 32, 50, 32, 48, 32, 48]⟩ : ByteArray).toList) = true from beq_iff_eq.2 rfl]; rfl, hp.ext⟩

end Go.Proofs.YtoopekjbikcebaaDoor
