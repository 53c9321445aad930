/- script: the law ScriptBack. -/
import Derived.Test.YtoopekjbikcebaaDoorScL
namespace Go.Proofs.YtoopekjbikcebaaDoor
open K
set_option linter.unusedVariables false

set_option maxRecDepth 100000 in
set_option maxHeartbeats 2000000 in
theorem backWalk (la : Option Addr) (cap : Nat) (l : List Stp) (t : ByteArray) (Rl : List (Nat × Obj)) (t0 : TypeId) (fr0 : Nat × Nat) (w : World) (hI : InT Rl la l) (hR : Has w ((0, .cells pv t0 fr0) :: Rl)) (hq : ∀ s ∈ l, Kok s) (hn : t.size ≤ maxLen) :
    Calls Tryd.prog 4 #[.slice la l.length cap, .string t] w fun e w' => e = .returned (.bool true) ∧ Ext [] w w' := by
  have hn0 := hn
  unfold maxLen at hn
  have hlen := ba_len t
  obtain ⟨P, hP⟩ : ∃ P, P = parseT t.data.toList := ⟨_, rfl⟩
  have hb2 := back2 t.data.toList
  obtain ⟨hPk, hPl⟩ := parse_row t.data.toList
  rw [← hP] at hb2 hPk hPl
  rw [hlen] at hPl
  refine enter (vs := [.slice la l.length cap, .string t]) [] ((0, .cells pv t0 fr0) :: Rl) [] Tryd.func4 rfl (by kernel_rfl) (HP.ofHas hR) ?_
  refine Cfg.reg rfl [0, 1] [] (Γ' := [(0, [], .slice la l.length cap), (1, [], .string t)]) (nd := (fun _ => [])) (fun _ => by kernel_rfl) trivial ?_
  refine Cfg.begL rfl ?_
  refine CfgL.eff (o := _) rfl (by kernel_rfl) (by kernel_rfl) (Eff.callA (vs := []) (.bool true) rfl Tryd.func5 rfl rfl (by kernel_rfl) (fun w1 h => sAwake t0 fr0 w1 (fun e he => by rw [List.mem_singleton.1 he]; exact h.ro _ (List.mem_cons_self ..)))) ?_
  rintro ⟨⟩ -
  refine CfgL.pure 1 [] (some [0, 1, 16]) (Γ' := [(16, [], .bool false), (0, [], .slice la l.length cap), (1, [], .string t)]) (nd := (fun _ => [])) (by kernel_rfl) (fun _ => by kernel_rfl) trivial ?_
  refine CfgL.done rfl ?_
  refine Cfg.condF rfl (b := false) (by kernel_rfl) rfl ?_
  refine Cfg.reg rfl [0, 1, 24] [] (Γ' := [(24, [], .bool ((decide ((l.length : Int) > (60 : Int))) || (decide ((t.size : Int) > (20100 : Int))))), (0, [], .slice la l.length cap), (1, [], .string t)]) (nd := (fun _ => [])) (fun _ => by kernel_rfl) trivial ?_
  refine Cfg.cond rfl (b := ((decide ((l.length : Int) > (60 : Int))) || (decide ((t.size : Int) > (20100 : Int))))) (by kernel_rfl) (fun c2r => ?_) (fun c2r => ?_)
  · have c2 : (((l.length : Int) > (60 : Int)) ∨ ((t.size : Int) > (20100 : Int))) := ((orT c2r).elim (fun h => Or.inl (of_decide_eq_true h)) (fun h => Or.inr (of_decide_eq_true h)))
    refine Cfg.reg rfl [4] [] (Γ' := [(4, [], .bool true)]) (nd := (fun _ => [])) (fun _ => by kernel_rfl) trivial ?_
    refine Cfg.ret rfl (rs := [.tmp 4]) rfl [.bool true] ⟨by kernel_rfl, trivial⟩ (fun w1 hp => ?_)
    exact ⟨rfl, hp.ext⟩
  · have c2 : ((¬ ((l.length : Int) > (60 : Int))) ∧ (¬ ((t.size : Int) > (20100 : Int)))) := ⟨(of_decide_eq_false (orF1 c2r)), (of_decide_eq_false (orF2 c2r))⟩
    refine Cfg.begL rfl ?_
    refine CfgL.pure 1 [] (some [0, 1, 26]) (Γ' := [(26, [], .slice la l.length cap), (0, [], .slice la l.length cap), (1, [], .string t)]) (nd := (fun _ => [])) (by kernel_rfl) (fun _ => by kernel_rfl) trivial ?_
    refine CfgL.eff (o := _) rfl (by kernel_rfl) (by kernel_rfl) (Eff.callA (vs := [.slice la l.length cap]) (.tuple #[.string (tx (printR l)), .int .i64 (printE l)]) rfl Tryd.func8 rfl rfl (by kernel_rfl) (fun w1 h => sPrint la cap l Rl t0 fr0 w1 hI (h.hasR (fun e he => he)) hq (by omega))) ?_
    rintro ⟨⟩ -
    refine CfgL.pure 5 [] (some [0, 1, 5, 6]) (Γ' := [(6, [], .int .i64 (printE l)), (5, [], .string (tx (printR l))), (0, [], .slice la l.length cap), (1, [], .string t)]) (nd := (fun _ => [])) (by kernel_rfl) (fun _ => by kernel_rfl) trivial ?_
    refine CfgL.done rfl ?_
    refine Cfg.reg rfl [0, 1, 5, 31] [] (Γ' := [(31, [], .bool ((printE l) == (0 : Int))), (5, [], .string (tx (printR l))), (0, [], .slice la l.length cap), (1, [], .string t)]) (nd := (fun _ => [])) (fun _ => by kernel_rfl) trivial ?_
    refine Cfg.cond rfl (b := ((printE l) == (0 : Int))) (by kernel_rfl) (fun c3r => ?_) (fun c3r => ?_)
    · have c3 : ((printE l) = (0 : Int)) := (beq_iff_eq.1 c3r)
      refine Cfg.begL rfl ?_
      refine CfgL.pure 1 [] (some [0, 1, 33]) (Γ' := [(33, [], .string (tx (printR l))), (0, [], .slice la l.length cap), (1, [], .string t)]) (nd := (fun _ => [])) (by kernel_rfl) (fun _ => by kernel_rfl) trivial ?_
      refine CfgL.eff (o := _) rfl (by kernel_rfl) (by kernel_rfl) (Eff.callH (vs := [.string (tx (printR l))]) (fun o : K.Own => .tuple #[.slice (Own.a o) (l).length (Own.c o), .int .i64 0, .int .i64 0]) [] (fun o => Own.o 26 (sv (l)) o) (fun o => OwnOk o 6 (l).length (sv (l))) [] [] rfl rfl Tryd.func9 rfl rfl (by kernel_rfl) (fun w1 h _ _ => by have h9 := sParse (tx (printR l)) w1 (by rw [tx_size, printR_yes c3]; have h8 := print_len l (fun s hs => (hq s hs).2); unfold maxLen; omega); rw [show parseT (tx (printR l)).data.toList = (l, 0, 0) from by rw [tx_list, printR_yes c3, back1 (by omega) (fun s hs => (hq s hs).2) c3]] at h9; exact h9)) ?_
      rintro om hom
      refine CfgL.pure 7 [] (some [0, 1, 7, 8, 9]) (Γ' := [(9, [], .int .i64 0), (8, [], .int .i64 0), (7, [], .slice (Own.a om) l.length (Own.c om)), (0, [], .slice la l.length cap), (1, [], .string t)]) (nd := (fun _ => [])) (by kernel_rfl) (fun _ => by kernel_rfl) trivial ?_
      refine CfgL.done rfl ?_
      refine Cfg.begL rfl ?_
      refine CfgL.pure 9 [(0, false, none), (0, false, none), (0, false, none), (1, false, none), (1, false, none), (0, false, none), (0, false, none), (1, false, none), (1, false, none)] (some [1, 44, 45, 46]) (Γ' := [(46, [], .slice la l.length cap), (45, [], .slice (Own.a om) l.length (Own.c om)), (44, [], .bool false), (1, [], .string t)]) (nd := (fun _ => [((.bool false : Value) = .bool false), ((.bool false : Value) = .bool false), ((.bool false : Value) = .bool false), ((.bool false : Value) = .bool false)])) (by kernel_rfl) (fun _ => by kernel_rfl) ⟨rfl, rfl, rfl, rfl, trivial⟩ ?_
      refine CfgL.eff (o := _) rfl (by kernel_rfl) (by kernel_rfl) (Eff.callA (vs := [.slice (Own.a om) l.length (Own.c om), .slice la l.length cap]) (.bool true) rfl Tryd.func12 rfl rfl (by kernel_rfl) (fun w1 h => rSame (Own.a om) la (Own.c om) cap l (Own.o 26 (sv l) om ++ Rl) w1 ((inT_own hom).mono (fun e he => List.mem_append_left _ he)) (hI.mono (fun e he => List.mem_append_right _ he)) (by omega) (fun e he => (List.mem_append.1 he).elim (fun h1 => h.own e (show e ∈ ([] ++ (Own.o 26 (sv l) om ++ [])) from (List.mem_append_right _ (List.mem_append_left _ h1)))) (fun h1 => h.ro e (List.mem_cons_of_mem _ h1))))) ?_
      rintro ⟨⟩ -
      refine CfgL.pure 2 [(1, false, none)] (some [1, 49]) (Γ' := [(49, [], .bool false), (1, [], .string t)]) (nd := (fun _ => [((.bool false : Value) = .bool false)])) (by kernel_rfl) (fun _ => by kernel_rfl) ⟨rfl, trivial⟩ ?_
      refine CfgL.done rfl ?_
      refine Cfg.condF rfl (b := false) (by kernel_rfl) rfl ?_
      refine Cfg.begL rfl ?_
      refine CfgL.pure 1 [] (some [1, 51]) (Γ' := [(51, [], .string t), (1, [], .string t)]) (nd := (fun _ => [])) (by kernel_rfl) (fun _ => by kernel_rfl) trivial ?_
      refine CfgL.eff (o := _) rfl (by kernel_rfl) (by kernel_rfl) (Eff.callH (vs := [.string t]) (fun o : K.Own => .tuple #[.slice (Own.a o) P.1.length (Own.c o), .int .i64 (P.2.1 : Int), .int .i64 P.2.2]) [] (fun o => Own.o 26 (sv P.1) o) (fun o => OwnOk o 6 P.1.length (sv P.1)) [] ([] ++ (Own.o 26 (sv l) om ++ [])) rfl rfl Tryd.func9 rfl rfl (by kernel_rfl) (fun w1 h _ _ => by have h9 := sParse t w1 hn0; rw [← hP] at h9; exact h9)) ?_
      rintro oa hoa
      refine CfgL.pure 7 [] (some [1, 10, 12]) (Γ' := [(12, [], .int .i64 P.2.2), (10, [], .slice (Own.a oa) P.1.length (Own.c oa)), (1, [], .string t)]) (nd := (fun _ => [])) (by kernel_rfl) (fun _ => by kernel_rfl) trivial ?_
      refine CfgL.done rfl ?_
      refine Cfg.begL rfl ?_
      refine CfgL.pure 1 [] none (Γ' := [(57, [], .slice (Own.a oa) P.1.length (Own.c oa)), (12, [], .int .i64 P.2.2), (10, [], .slice (Own.a oa) P.1.length (Own.c oa)), (1, [], .string t)]) (nd := (fun _ => [])) (by kernel_rfl) (fun _ => by kernel_rfl) trivial ?_
      refine CfgL.eff (o := _) rfl (by kernel_rfl) (by kernel_rfl) (Eff.callA (vs := [.slice (Own.a oa) P.1.length (Own.c oa)]) (.tuple #[.string (tx (printR P.1)), .int .i64 (printE P.1)]) rfl Tryd.func8 rfl rfl (by kernel_rfl) (fun w1 h => sPrint (Own.a oa) (Own.c oa) P.1 (Own.o 26 (sv P.1) oa) t0 fr0 w1 (inT_own hoa) (fun e he => (List.mem_cons.1 he).elim (fun h1 => h1 ▸ h.ro _ (List.mem_cons_self ..)) (fun h1 => h.own e (show e ∈ ([] ++ (Own.o 26 (sv P.1) oa ++ (Own.o 26 (sv l) om ++ []))) from (List.mem_append_right _ (List.mem_append_left _ h1))))) hPk (by omega))) ?_
      rintro ⟨⟩ -
      refine CfgL.pure 5 [] (some [1, 10, 12, 13, 14]) (Γ' := [(14, [], .int .i64 (printE P.1)), (13, [], .string (tx (printR P.1))), (12, [], .int .i64 P.2.2), (10, [], .slice (Own.a oa) P.1.length (Own.c oa)), (1, [], .string t)]) (nd := (fun _ => [])) (by kernel_rfl) (fun _ => by kernel_rfl) trivial ?_
      refine CfgL.done rfl ?_
      refine Cfg.reg rfl [4] [] (Γ' := [(4, [], .bool (((P.2.2 != (0 : Int)) && ((P.1.length : Int) == (0 : Int))) || (((P.2.2 == (0 : Int)) && ((printE P.1) == (0 : Int))) && ((tx (printR P.1)).toList == t.toList))))]) (nd := (fun _ => [])) (fun _ => by kernel_rfl) trivial ?_
      refine Cfg.ret rfl (rs := [.tmp 4]) rfl [.bool (((P.2.2 != (0 : Int)) && ((P.1.length : Int) == (0 : Int))) || (((P.2.2 == (0 : Int)) && ((printE P.1) == (0 : Int))) && ((tx (printR P.1)).toList == t.toList)))] ⟨by kernel_rfl, trivial⟩ (fun w1 hp => ?_)
      refine ⟨?_, hp.ext⟩
      rcases hb2 with ⟨g1, g2, g3, g4⟩ | ⟨g1, g2⟩
      · have hu : tx (printR P.1) = t := by rw [printR_yes g4, g3, tx_back]
        rw [hu, g1, g4, beq_self_eq_true (0 : Int), beq_self_eq_true t.toList]; rfl
      · have g3 : (P.2.2 != 0) = true := bne_iff_ne.2 g1
        rw [g3, g2]; rfl
    · have c3 : ((printE l) ≠ (0 : Int)) := (beq_eq_false_iff_ne.1 c3r)
      refine Cfg.begL rfl ?_
      refine CfgL.pure 1 [] (some [1, 51]) (Γ' := [(51, [], .string t), (1, [], .string t)]) (nd := (fun _ => [])) (by kernel_rfl) (fun _ => by kernel_rfl) trivial ?_
      refine CfgL.eff (o := _) rfl (by kernel_rfl) (by kernel_rfl) (Eff.callH (vs := [.string t]) (fun o : K.Own => .tuple #[.slice (Own.a o) P.1.length (Own.c o), .int .i64 (P.2.1 : Int), .int .i64 P.2.2]) [] (fun o => Own.o 26 (sv P.1) o) (fun o => OwnOk o 6 P.1.length (sv P.1)) [] [] rfl rfl Tryd.func9 rfl rfl (by kernel_rfl) (fun w1 h _ _ => by have h9 := sParse t w1 hn0; rw [← hP] at h9; exact h9)) ?_
      rintro oa hoa
      refine CfgL.pure 7 [] (some [1, 10, 12]) (Γ' := [(12, [], .int .i64 P.2.2), (10, [], .slice (Own.a oa) P.1.length (Own.c oa)), (1, [], .string t)]) (nd := (fun _ => [])) (by kernel_rfl) (fun _ => by kernel_rfl) trivial ?_
      refine CfgL.done rfl ?_
      refine Cfg.begL rfl ?_
      refine CfgL.pure 1 [] none (Γ' := [(57, [], .slice (Own.a oa) P.1.length (Own.c oa)), (12, [], .int .i64 P.2.2), (10, [], .slice (Own.a oa) P.1.length (Own.c oa)), (1, [], .string t)]) (nd := (fun _ => [])) (by kernel_rfl) (fun _ => by kernel_rfl) trivial ?_
      refine CfgL.eff (o := _) rfl (by kernel_rfl) (by kernel_rfl) (Eff.callA (vs := [.slice (Own.a oa) P.1.length (Own.c oa)]) (.tuple #[.string (tx (printR P.1)), .int .i64 (printE P.1)]) rfl Tryd.func8 rfl rfl (by kernel_rfl) (fun w1 h => sPrint (Own.a oa) (Own.c oa) P.1 (Own.o 26 (sv P.1) oa) t0 fr0 w1 (inT_own hoa) (fun e he => (List.mem_cons.1 he).elim (fun h1 => h1 ▸ h.ro _ (List.mem_cons_self ..)) (fun h1 => h.own e (show e ∈ ([] ++ (Own.o 26 (sv P.1) oa ++ [])) from (List.mem_append_right _ (List.mem_append_left _ h1))))) hPk (by omega))) ?_
      rintro ⟨⟩ -
      refine CfgL.pure 5 [] (some [1, 10, 12, 13, 14]) (Γ' := [(14, [], .int .i64 (printE P.1)), (13, [], .string (tx (printR P.1))), (12, [], .int .i64 P.2.2), (10, [], .slice (Own.a oa) P.1.length (Own.c oa)), (1, [], .string t)]) (nd := (fun _ => [])) (by kernel_rfl) (fun _ => by kernel_rfl) trivial ?_
      refine CfgL.done rfl ?_
      refine Cfg.reg rfl [4] [] (Γ' := [(4, [], .bool (((P.2.2 != (0 : Int)) && ((P.1.length : Int) == (0 : Int))) || (((P.2.2 == (0 : Int)) && ((printE P.1) == (0 : Int))) && ((tx (printR P.1)).toList == t.toList))))]) (nd := (fun _ => [])) (fun _ => by kernel_rfl) trivial ?_
      refine Cfg.ret rfl (rs := [.tmp 4]) rfl [.bool (((P.2.2 != (0 : Int)) && ((P.1.length : Int) == (0 : Int))) || (((P.2.2 == (0 : Int)) && ((printE P.1) == (0 : Int))) && ((tx (printR P.1)).toList == t.toList)))] ⟨by kernel_rfl, trivial⟩ (fun w1 hp => ?_)
      refine ⟨?_, hp.ext⟩
      rcases hb2 with ⟨g1, g2, g3, g4⟩ | ⟨g1, g2⟩
      · have hu : tx (printR P.1) = t := by rw [printR_yes g4, g3, tx_back]
        rw [hu, g1, g4, beq_self_eq_true (0 : Int), beq_self_eq_true t.toList]; rfl
      · have g3 : (P.2.2 != 0) = true := bne_iff_ne.2 g1
        rw [g3, g2]; rfl

end Go.Proofs.YtoopekjbikcebaaDoor
