/- space: spaces without sectors, and none: Free, Take. -/
import Derived.Test.YtmkefcjphdaoiaaSpA
namespace Go.Proofs.Ytmkefcjphdaoiaa
open K
set_option linter.unusedVariables false

theorem inE {f p : Int} : inP f ([] : List Bool).length p = false := by unfold inP; simp
theorem inE0 {f p : Int} : inP f 0 p = false := inE
set_option maxRecDepth 100000 in
theorem itE (tb s l : Nat) (f : Int) (w : World) (hR : Has w [(tb, .cells #[.pointer (some ⟨s, 0, none⟩)] 24 (0, 0)), (s, .cells #[.int .i64 f, .slice none 0 0] 94 (0, 0))]) :
    Calls Try.prog 54 #[.func (.yield l) #[] #[], .pointer (some ⟨tb, 0, none⟩)] w fun e w' => e = .returned (.tuple #[]) ∧ Ext [] w w' := by
  refine enter (vs := [.func (.yield l) #[] #[], .pointer (some ⟨tb, 0, none⟩)]) [] [(tb, .cells #[.pointer (some ⟨s, 0, none⟩)] 24 (0, 0)), (s, .cells #[.int .i64 f, .slice none 0 0] 94 (0, 0))] [] Try.func54 rfl (by kernel_rfl) (HP.ofHas hR) ?_
  refine Cfg.reg rfl [0, 1, 6] [(0, false, some (.pointer (some ⟨s, 0, none⟩)))] (Γ' := [(6, [], .bool false), (0, [], .func (.yield l) #[] #[]), (1, [], .pointer (some ⟨tb, 0, none⟩))]) (nd := (fun S => [(∀ w1, S w1 → w1.cell? ⟨tb, 0, none⟩ = some (.pointer (some ⟨s, 0, none⟩)))])) (fun _ => by kernel_rfl) ⟨(fun w1 h => h.rcell 0 rfl rfl), trivial⟩ ?_
  refine Cfg.condF rfl (b := false) (by kernel_rfl) rfl ?_
  refine Cfg.reg rfl [0, 1, 3] [] (Γ' := [(3, [], .int .i64 0), (0, [], .func (.yield l) #[] #[]), (1, [], .pointer (some ⟨tb, 0, none⟩))]) (nd := (fun _ => [])) (fun _ => by kernel_rfl) trivial ?_
  refine Cfg.loop rfl (ι := Nat) (fun (k : Nat) => [(3, [], .int .i64 (k : Int)), (0, [], .func (.yield l) #[] #[]), (1, [], .pointer (some ⟨tb, 0, none⟩))]) (fun (k : Nat) => []) (fun (k : Nat) => True) (fun (k : Nat) => 0) 0 ?_ (Conv.mk (by kernel_rfl)) .slnil ?_
  · trivial
  · rintro k -
    refine Cfg.reg rfl [0, 1, 3, 13] [(0, false, none), (0, false, some (.pointer (some ⟨s, 0, none⟩))), (0, false, none), (0, false, none), (0, false, some (.slice none 0 0))] (Γ' := [(13, [], .bool (decide ((k : Int) < (0 : Int)))), (3, [], .int .i64 (k : Int)), (0, [], .func (.yield l) #[] #[]), (1, [], .pointer (some ⟨tb, 0, none⟩))]) (nd := (fun S => [(∀ w1, S w1 → w1.cell? ⟨tb, 0, none⟩ = some (.pointer (some ⟨s, 0, none⟩))), (∀ w1, S w1 → w1.cell? ⟨s, 1, none⟩ = some (.slice none 0 0))])) (fun _ => by kernel_rfl) ⟨(fun w1 h => h.rcell 0 rfl rfl), (fun w1 h => h.rcell 1 rfl rfl), trivial⟩ ?_
    refine Cfg.condF rfl (b := (decide ((k : Int) < (0 : Int)))) (by kernel_rfl) (decide_eq_false (by omega)) ?_
    refine Cfg.fin rfl (rs := []) rfl [] trivial (fun w1 hp => ?_)
    exact ⟨rfl, hp.ext⟩

set_option maxRecDepth 100000 in
theorem itN (tb l : Nat) (w : World) (hR : Has w [(tb, .cells #[.pointer none] 24 (0, 0))]) :
    Calls Try.prog 54 #[.func (.yield l) #[] #[], .pointer (some ⟨tb, 0, none⟩)] w fun e w' => e = .returned (.tuple #[]) ∧ Ext [] w w' := by
  refine enter (vs := [.func (.yield l) #[] #[], .pointer (some ⟨tb, 0, none⟩)]) [] [(tb, .cells #[.pointer none] 24 (0, 0))] [] Try.func54 rfl (by kernel_rfl) (HP.ofHas hR) ?_
  refine Cfg.reg rfl [0, 1, 6] [(0, false, some (.pointer none))] (Γ' := [(6, [], .bool true), (0, [], .func (.yield l) #[] #[]), (1, [], .pointer (some ⟨tb, 0, none⟩))]) (nd := (fun S => [(∀ w1, S w1 → w1.cell? ⟨tb, 0, none⟩ = some (.pointer none))])) (fun _ => by kernel_rfl) ⟨(fun w1 h => h.rcell 0 rfl rfl), trivial⟩ ?_
  refine Cfg.condT rfl (b := true) (by kernel_rfl) rfl ?_
  refine Cfg.ret rfl (rs := []) rfl [] trivial (fun w1 hp => ?_)
  exact ⟨rfl, hp.ext⟩

theorem runsE (tb s : Nat) (f : Int) : IterSpec Try.prog 54 #[.pointer (some ⟨tb, 0, none⟩)] [(tb, .cells #[.pointer (some ⟨s, 0, none⟩)] 24 (0, 0)), (s, .cells #[.int .i64 f, .slice none 0 0] 94 (0, 0))] ([] : List (Nat × Nat)) (fun (x : Nat × Nat) => Value.agg #[.int .i64 (f + (x.1 : Int)), .int .i64 (x.2 : Int)]) := IterSpec.none fun l w h => itE tb s l f w h
theorem runsNil (tb : Nat) {α : Type} (val : α → Value) : IterSpec Try.prog 54 #[.pointer (some ⟨tb, 0, none⟩)] [(tb, .cells #[.pointer none] 24 (0, 0))] ([] : List α) val := IterSpec.none fun l w h => itN tb l w h

set_option maxRecDepth 100000 in
theorem freeE (s : Nat) (f : Int) (w : World) (hR : Has w [(s, .cells #[.int .i64 f, .slice none 0 0] 94 (0, 0))]) :
    Calls Try.prog 17 #[.pointer (some ⟨s, 0, none⟩)] w fun e w' => e = .returned (.int .i64 0) ∧ Ext [] w w' := by
  refine enterM (vs := [.pointer (some ⟨s, 0, none⟩)]) [] [(s, .cells #[.int .i64 f, .slice none 0 0] 94 (0, 0))] [] Try.func17 rfl (by kernel_rfl) (HP.ofHas hR) ?_
  refine Cfg.reg rfl [0] [] (Γ' := [(0, [], .pointer (some ⟨s, 0, none⟩))]) (nd := (fun _ => [])) (fun _ => by kernel_rfl) trivial ?_
  refine Cfg.begL rfl ?_
  refine CfgL.eff (o := _) rfl (by kernel_rfl) (by kernel_rfl) (Eff.alloc (z := (.int .i64 0)) rfl (by kernel_rfl)) ?_
  rintro za ⟨hza, nza⟩
  refine CfgL.eff (o := _) rfl (by kernel_rfl) (by kernel_rfl) (Eff.store1 (b := za) (off := 0) (v := .int .i64 0) rfl (by kernel_rfl) (by kernel_rfl) rfl (by kernel_rfl) 0 (cs := #[.int .i64 0]) (e := 3) (by kernel_rfl) (by simp)) ?_
  rintro ⟨⟩ -
  refine CfgL.done rfl ?_
  refine Cfg.begL rfl ?_
  refine CfgL.pure 1 [] none (Γ' := [(5, [], .pointer (some ⟨s, 0, none⟩)), (3, [], .pointer (some ⟨za, 0, none⟩)), (0, [], .pointer (some ⟨s, 0, none⟩))]) (nd := (fun _ => [])) (by kernel_rfl) (fun _ => by kernel_rfl) trivial ?_
  refine CfgL.eff (o := _) rfl (by kernel_rfl) (by kernel_rfl) (Eff.callN (vs := [.pointer (some ⟨s, 0, none⟩)]) (fun tb => .func (.func 54) #[] #[.pointer (some ⟨tb, 0, none⟩)]) (fun tb => tb) (fun _ => .cells #[.pointer (some ⟨s, 0, none⟩)] 24 (0, 0)) (fun _ => True) rfl Try.func13 rfl rfl (by kernel_rfl) (fun w1 h => runsC s w1)) ?_
  rintro tb -
  refine CfgL.done rfl ?_
  refine Conv.cfg (Γ' := [(6, [], .func (.func 54) #[] #[.pointer (some ⟨tb, 0, none⟩)]), (3, [], .pointer (some ⟨za, 0, none⟩))]) (Conv.mk (by kernel_rfl)) ?_
  refine Cfg.rangeJ rfl (caps := #[.pointer (some ⟨tb, 0, none⟩)]) (by kernel_rfl) Try.func54 (by kernel_rfl) rfl (by kernel_rfl) (runsE tb s f) (σ := Unit) (fun (_ : Unit) => [(tb, .cells #[.pointer (some ⟨s, 0, none⟩)] 24 (0, 0)), (za, .cells #[.int .i64 0] 3 (0, 0))]) (fun _ _ => True) () trivial [(s, .cells #[.int .i64 f, .slice none 0 0] 94 (0, 0))] (by rfl) (fun e he => he) (fun w1 h => by simp) (fun (_ : Unit) => [(tb, .cells #[.pointer (some ⟨s, 0, none⟩)] 24 (0, 0)), (za, .cells #[.int .i64 0] 3 (0, 0)), (s, .cells #[.int .i64 f, .slice none 0 0] 94 (0, 0))]) (fun _ => rfl) (fun _ => true) (fun pre x _ _ e he => List.Sublist.subset (.cons_cons _ (.cons _ (.cons_cons _ .slnil))) he) (.ret) rfl ?_ ?_ ?_
  · intro l ob1 ob2 w2 M2 pre _ ⟨k, n⟩ rest hal hJx hit
    simp at hit
  · intro dr1 _ hal hJy
    refine Cfg.reg rfl [2] [(0, false, some (.int .i64 0))] (Γ' := [(2, [], .int .i64 0)]) (nd := (fun S => [(∀ w1, S w1 → w1.cell? ⟨za, 0, none⟩ = some (.int .i64 0))])) (fun _ => by kernel_rfl) ⟨(fun w1 h => h.ocell 2 rfl rfl), trivial⟩ ?_
    refine Cfg.retM (O' := [(tb, .cells #[.pointer (some ⟨s, 0, none⟩)] 24 (0, 0)), (za, .cells #[.int .i64 0] 3 (0, 0))]) rfl (rs := [.tmp 2]) rfl [.int .i64 0] (List.Sublist.refl _) ⟨by kernel_rfl, trivial⟩ (fun w1 hp => ?_)
    exact ⟨rfl, hp.ext⟩
  · intro dr1 _ pre ⟨k, n⟩ rest hit hal hpa hJy
    cases hpa

set_option maxRecDepth 100000 in
theorem freeN (w : World) :
    Calls Try.prog 17 #[.pointer none] w fun e w' => e = .returned (.int .i64 0) ∧ Ext [] w w' := by
  refine enterM (vs := [.pointer none]) [] [] [] Try.func17 rfl (by kernel_rfl) (HP.start w) ?_
  refine Cfg.reg rfl [0] [] (Γ' := [(0, [], .pointer none)]) (nd := (fun _ => [])) (fun _ => by kernel_rfl) trivial ?_
  refine Cfg.begL rfl ?_
  refine CfgL.eff (o := _) rfl (by kernel_rfl) (by kernel_rfl) (Eff.alloc (z := (.int .i64 0)) rfl (by kernel_rfl)) ?_
  rintro za ⟨hza, nza⟩
  refine CfgL.eff (o := _) rfl (by kernel_rfl) (by kernel_rfl) (Eff.store1 (b := za) (off := 0) (v := .int .i64 0) rfl (by kernel_rfl) (by kernel_rfl) rfl (by kernel_rfl) 0 (cs := #[.int .i64 0]) (e := 3) (by kernel_rfl) (by simp)) ?_
  rintro ⟨⟩ -
  refine CfgL.done rfl ?_
  refine Cfg.begL rfl ?_
  refine CfgL.pure 1 [] none (Γ' := [(5, [], .pointer none), (3, [], .pointer (some ⟨za, 0, none⟩)), (0, [], .pointer none)]) (nd := (fun _ => [])) (by kernel_rfl) (fun _ => by kernel_rfl) trivial ?_
  refine CfgL.eff (o := _) rfl (by kernel_rfl) (by kernel_rfl) (Eff.callN (vs := [.pointer none]) (fun tb => .func (.func 54) #[] #[.pointer (some ⟨tb, 0, none⟩)]) (fun tb => tb) (fun _ => .cells #[.pointer none] 24 (0, 0)) (fun _ => True) rfl Try.func13 rfl rfl (by kernel_rfl) (fun w1 h => runsN w1)) ?_
  rintro tb -
  refine CfgL.done rfl ?_
  refine Conv.cfg (Γ' := [(6, [], .func (.func 54) #[] #[.pointer (some ⟨tb, 0, none⟩)]), (3, [], .pointer (some ⟨za, 0, none⟩))]) (Conv.mk (by kernel_rfl)) ?_
  refine Cfg.rangeJ rfl (caps := #[.pointer (some ⟨tb, 0, none⟩)]) (by kernel_rfl) Try.func54 (by kernel_rfl) rfl (by kernel_rfl) (runsNil tb (fun (x : Nat × Nat) => Value.agg #[.int .i64 (x.1 : Int), .int .i64 (x.2 : Int)])) (σ := Unit) (fun (_ : Unit) => [(tb, .cells #[.pointer none] 24 (0, 0)), (za, .cells #[.int .i64 0] 3 (0, 0))]) (fun _ _ => True) () trivial [] (by rfl) (fun e he => by cases he) (fun w1 h => by simp) (fun (_ : Unit) => [(tb, .cells #[.pointer none] 24 (0, 0)), (za, .cells #[.int .i64 0] 3 (0, 0))]) (fun _ => rfl) (fun _ => true) (fun pre x _ _ e he => List.Sublist.subset (.cons_cons _ (.cons _ .slnil)) he) (.ret) rfl ?_ ?_ ?_
  · intro l ob1 ob2 w2 M2 pre _ ⟨k, n⟩ rest hal hJx hit
    simp at hit
  · intro dr1 _ hal hJy
    refine Cfg.reg rfl [2] [(0, false, some (.int .i64 0))] (Γ' := [(2, [], .int .i64 0)]) (nd := (fun S => [(∀ w1, S w1 → w1.cell? ⟨za, 0, none⟩ = some (.int .i64 0))])) (fun _ => by kernel_rfl) ⟨(fun w1 h => h.ocell 2 rfl rfl), trivial⟩ ?_
    refine Cfg.retM (O' := [(tb, .cells #[.pointer none] 24 (0, 0)), (za, .cells #[.int .i64 0] 3 (0, 0))]) rfl (rs := [.tmp 2]) rfl [.int .i64 0] (List.Sublist.refl _) ⟨by kernel_rfl, trivial⟩ (fun w1 hp => ?_)
    exact ⟨rfl, hp.ext⟩
  · intro dr1 _ pre ⟨k, n⟩ rest hit hal hpa hJy
    cases hpa

set_option maxRecDepth 100000 in
theorem takeE (s : Nat) (f n : Int) (w : World) (hn : I64 n) (hA : Has w [(s, .cells #[.int .i64 f, .slice none 0 0] 94 (0, 0))]) :
    Calls Try.prog 14 #[.pointer (some ⟨s, 0, none⟩), .int .i64 n] w fun e w' => e = .returned (.tuple #[.int .i64 0, .int .i64 (if n < 1 then 2 else 14)]) ∧ ∃ R1, HP w [s] R1 [(s, .cells #[.int .i64 f, .slice none 0 0] 94 (0, 0))] w' := by
  have hn2 := hn
  unfold I64 at hn2
  refine enterM (vs := [.pointer (some ⟨s, 0, none⟩), .int .i64 n]) [s] [] [(s, .cells #[.int .i64 f, .slice none 0 0] 94 (0, 0))] Try.func14 rfl (by kernel_rfl) (HP.ofL hA (by simp) (fun e he => by cases he) (fun e he => by cases he)) ?_
  refine Cfg.begL rfl ?_
  refine CfgL.eff (o := _) rfl (by kernel_rfl) (by kernel_rfl) (Eff.box (v := .pointer (some ⟨s, 0, none⟩)) rfl (by kernel_rfl)) ?_
  rintro zs ⟨hzs, nzs⟩
  refine CfgL.eff (o := _) rfl (by kernel_rfl) (by kernel_rfl) (Eff.box (v := .int .i64 n) rfl (by kernel_rfl)) ?_
  rintro zn ⟨hzn, nzn⟩
  refine CfgL.eff (o := _) rfl (by kernel_rfl) (by kernel_rfl) (Eff.alloc (z := (.int .i64 0)) rfl (by kernel_rfl)) ?_
  rintro za ⟨hza, nza⟩
  refine CfgL.eff (o := _) rfl (by kernel_rfl) (by kernel_rfl) (Eff.alloc (z := (.int .i64 0)) rfl (by kernel_rfl)) ?_
  rintro ze ⟨hze, nze⟩
  refine CfgL.done rfl ?_
  refine Conv.cfg (Γ' := [(5, [], .pointer (some ⟨ze, 0, none⟩)), (4, [], .pointer (some ⟨za, 0, none⟩)), (3, [], .pointer (some ⟨zn, 0, none⟩)), (2, [], .pointer (some ⟨zs, 0, none⟩))]) (Conv.mk (by kernel_rfl)) ?_
  refine Cfg.reg rfl [2, 3, 4, 5, 8] [(0, false, some (.pointer (some ⟨s, 0, none⟩)))] (Γ' := [(8, [], .bool false), (5, [], .pointer (some ⟨ze, 0, none⟩)), (4, [], .pointer (some ⟨za, 0, none⟩)), (3, [], .pointer (some ⟨zn, 0, none⟩)), (2, [], .pointer (some ⟨zs, 0, none⟩))]) (nd := (fun S => [(∀ w1, S w1 → w1.cell? ⟨zs, 0, none⟩ = some (.pointer (some ⟨s, 0, none⟩)))])) (fun _ => by kernel_rfl) ⟨(fun w1 h => h.ocell 3 rfl rfl), trivial⟩ ?_
  refine Cfg.condF rfl (b := false) (by kernel_rfl) rfl ?_
  refine Cfg.reg rfl [2, 3, 4, 5, 10] [(0, false, some (.int .i64 n))] (Γ' := [(10, [], .bool (decide (n < (1 : Int)))), (5, [], .pointer (some ⟨ze, 0, none⟩)), (4, [], .pointer (some ⟨za, 0, none⟩)), (3, [], .pointer (some ⟨zn, 0, none⟩)), (2, [], .pointer (some ⟨zs, 0, none⟩))]) (nd := (fun S => [(∀ w1, S w1 → w1.cell? ⟨zn, 0, none⟩ = some (.int .i64 n))])) (fun _ => by kernel_rfl) ⟨(fun w1 h => h.ocell 2 rfl rfl), trivial⟩ ?_
  refine Cfg.cond rfl (b := (decide (n < (1 : Int)))) (by kernel_rfl) (fun c2r => ?_) (fun c2r => ?_)
  · have c2 : (n < (1 : Int)) := (of_decide_eq_true c2r)
    refine Cfg.begL rfl ?_
    refine CfgL.eff (o := _) rfl (by kernel_rfl) (by kernel_rfl) (Eff.store1 (b := za) (off := 0) (v := .int .i64 0) rfl (by kernel_rfl) (by kernel_rfl) rfl (by kernel_rfl) 1 (cs := #[.int .i64 0]) (e := 3) (by kernel_rfl) (by simp)) ?_
    rintro ⟨⟩ -
    refine CfgL.eff (o := _) rfl (by kernel_rfl) (by kernel_rfl) (Eff.store1 (b := ze) (off := 0) (v := .int .i64 2) rfl (by kernel_rfl) (by kernel_rfl) rfl (by kernel_rfl) 0 (cs := #[.int .i64 0]) (e := 28) (by kernel_rfl) (by simp)) ?_
    rintro ⟨⟩ -
    refine CfgL.done rfl ?_
    refine Conv.cfg (Γ' := [(5, [], .pointer (some ⟨ze, 0, none⟩)), (4, [], .pointer (some ⟨za, 0, none⟩))]) (Conv.mk (by kernel_rfl)) ?_
    refine Cfg.retM (O' := [(ze, .cells (#[.int .i64 0].setIfInBounds 0 (.int .i64 2)) 28 (0, 0)), (za, .cells (#[.int .i64 0].setIfInBounds 0 (.int .i64 0)) 3 (0, 0)), (zn, .cells #[.int .i64 n] 3 (0, 0)), (zs, .cells #[.pointer (some ⟨s, 0, none⟩)] 24 (0, 0)), (s, .cells #[.int .i64 f, .slice none 0 0] 94 (0, 0))]) rfl (rs := [.cell 4 3, .cell 5 28]) rfl [.int .i64 0, .int .i64 2] (List.Sublist.refl _) ⟨⟨_, by kernel_rfl, fun w1 h => h.ovar 1 (off := 0) rfl (by kernel_rfl) rfl⟩, ⟨_, by kernel_rfl, fun w1 h => h.ovar 0 (off := 0) rfl (by kernel_rfl) rfl⟩, trivial⟩ (fun w1 hp => ?_)
    exact ⟨by rw [if_pos c2]; rfl, _, hp.sub (.cons _ (.cons _ (.cons _ (.cons _ (.cons_cons _ .slnil)))))⟩
  · have c2 : (¬ (n < (1 : Int))) := (of_decide_eq_false c2r)
    have hlow : ¬ n < 1 := c2
    refine Cfg.begL rfl ?_
    refine CfgL.pure 1 [(0, false, some (.pointer (some ⟨s, 0, none⟩)))] none (Γ' := [(11, [], .pointer (some ⟨s, 0, none⟩)), (10, [], .bool (decide (n < (1 : Int)))), (5, [], .pointer (some ⟨ze, 0, none⟩)), (4, [], .pointer (some ⟨za, 0, none⟩)), (3, [], .pointer (some ⟨zn, 0, none⟩)), (2, [], .pointer (some ⟨zs, 0, none⟩))]) (nd := (fun S => [(∀ w1, S w1 → w1.cell? ⟨zs, 0, none⟩ = some (.pointer (some ⟨s, 0, none⟩)))])) (by kernel_rfl) (fun _ => by kernel_rfl) ⟨(fun w1 h => h.ocell 3 rfl rfl), trivial⟩ ?_
    refine CfgL.eff (o := _) rfl (by kernel_rfl) (by kernel_rfl) (Eff.callN (vs := [.pointer (some ⟨s, 0, none⟩)]) (fun tb => .func (.func 54) #[] #[.pointer (some ⟨tb, 0, none⟩)]) (fun tb => tb) (fun _ => .cells #[.pointer (some ⟨s, 0, none⟩)] 24 (0, 0)) (fun _ => True) rfl Try.func13 rfl rfl (by kernel_rfl) (fun w1 h => runsC s w1)) ?_
    rintro tb -
    refine CfgL.done rfl ?_
    refine Conv.cfg (Γ' := [(12, [], .func (.func 54) #[] #[.pointer (some ⟨tb, 0, none⟩)]), (5, [], .pointer (some ⟨ze, 0, none⟩)), (4, [], .pointer (some ⟨za, 0, none⟩)), (3, [], .pointer (some ⟨zn, 0, none⟩)), (2, [], .pointer (some ⟨zs, 0, none⟩))]) (Conv.mk (by kernel_rfl)) ?_
    refine Cfg.rangeJ rfl (caps := #[.pointer (some ⟨tb, 0, none⟩)]) (by kernel_rfl) Try.func54 (by kernel_rfl) rfl (by kernel_rfl) (runsE tb s f) (σ := Unit) (fun (_ : Unit) => [(tb, .cells #[.pointer (some ⟨s, 0, none⟩)] 24 (0, 0)), (ze, .cells #[.int .i64 0] 28 (0, 0)), (za, .cells #[.int .i64 0] 3 (0, 0)), (zn, .cells #[.int .i64 n] 3 (0, 0)), (zs, .cells #[.pointer (some ⟨s, 0, none⟩)] 24 (0, 0)), (s, .cells #[.int .i64 f, .slice none 0 0] 94 (0, 0))]) (fun _ _ => True) () trivial [] (by rfl) (fun e he => by cases he) (fun w1 h => List.nodup_nil) (fun (_ : Unit) => [(tb, .cells #[.pointer (some ⟨s, 0, none⟩)] 24 (0, 0)), (ze, .cells #[.int .i64 0] 28 (0, 0)), (za, .cells #[.int .i64 0] 3 (0, 0)), (zn, .cells #[.int .i64 n] 3 (0, 0)), (zs, .cells #[.pointer (some ⟨s, 0, none⟩)] 24 (0, 0)), (s, .cells #[.int .i64 f, .slice none 0 0] 94 (0, 0))]) (fun _ => rfl) (fun _ => true) (fun pre x _ _ e he => List.Sublist.subset (.cons_cons _ (.cons _ (.cons _ (.cons _ (.cons _ (.cons_cons _ .slnil)))))) he) (.ret) rfl ?_ ?_ ?_
    · intro l ob1 ob2 w2 M2 pre _ ⟨k, n⟩ rest hal hJx hit
      simp at hit
    · intro dr1 _ hal hJy
      refine Cfg.begL rfl ?_
      refine CfgL.eff (o := _) rfl (by kernel_rfl) (by kernel_rfl) (Eff.store1 (b := za) (off := 0) (v := .int .i64 0) rfl (by kernel_rfl) (by kernel_rfl) rfl (by kernel_rfl) 3 (cs := #[.int .i64 0]) (e := 3) (by kernel_rfl) (by simp)) ?_
      rintro ⟨⟩ -
      refine CfgL.eff (o := _) rfl (by kernel_rfl) (by kernel_rfl) (Eff.store1 (b := ze) (off := 0) (v := .int .i64 14) rfl (by kernel_rfl) (by kernel_rfl) rfl (by kernel_rfl) 2 (cs := #[.int .i64 0]) (e := 28) (by kernel_rfl) (by simp)) ?_
      rintro ⟨⟩ -
      refine CfgL.done rfl ?_
      refine Conv.cfg (Γ' := [(5, [], .pointer (some ⟨ze, 0, none⟩)), (4, [], .pointer (some ⟨za, 0, none⟩))]) (Conv.mk (by kernel_rfl)) ?_
      refine Cfg.retM (O' := [(tb, .cells #[.pointer (some ⟨s, 0, none⟩)] 24 (0, 0)), (ze, .cells (#[.int .i64 0].setIfInBounds 0 (.int .i64 14)) 28 (0, 0)), (za, .cells (#[.int .i64 0].setIfInBounds 0 (.int .i64 0)) 3 (0, 0)), (zn, .cells #[.int .i64 n] 3 (0, 0)), (zs, .cells #[.pointer (some ⟨s, 0, none⟩)] 24 (0, 0)), (s, .cells #[.int .i64 f, .slice none 0 0] 94 (0, 0))]) rfl (rs := [.cell 4 3, .cell 5 28]) rfl [.int .i64 0, .int .i64 14] (List.Sublist.refl _) ⟨⟨_, by kernel_rfl, fun w1 h => h.ovar 2 (off := 0) rfl (by kernel_rfl) rfl⟩, ⟨_, by kernel_rfl, fun w1 h => h.ovar 1 (off := 0) rfl (by kernel_rfl) rfl⟩, trivial⟩ (fun w1 hp => ?_)
      exact ⟨by rw [if_neg hlow]; rfl, _, hp.sub (.cons _ (.cons _ (.cons _ (.cons _ (.cons _ (.cons_cons _ .slnil))))))⟩
    · intro dr1 _ pre ⟨k, n⟩ rest hit hal hpa hJy
      cases hpa

set_option maxRecDepth 100000 in
theorem takeN (n : Int) (w : World) :
    Calls Try.prog 14 #[.pointer none, .int .i64 n] w fun e w' => e = .returned (.tuple #[.int .i64 0, .int .i64 1]) ∧ Ext [] w w' := by
  skip
  refine enterM (vs := [.pointer none, .int .i64 n]) [] [] [] Try.func14 rfl (by kernel_rfl) (HP.start w) ?_
  refine Cfg.begL rfl ?_
  refine CfgL.eff (o := _) rfl (by kernel_rfl) (by kernel_rfl) (Eff.box (v := .pointer none) rfl (by kernel_rfl)) ?_
  rintro zs ⟨hzs, nzs⟩
  refine CfgL.eff (o := _) rfl (by kernel_rfl) (by kernel_rfl) (Eff.box (v := .int .i64 n) rfl (by kernel_rfl)) ?_
  rintro zn ⟨hzn, nzn⟩
  refine CfgL.eff (o := _) rfl (by kernel_rfl) (by kernel_rfl) (Eff.alloc (z := (.int .i64 0)) rfl (by kernel_rfl)) ?_
  rintro za ⟨hza, nza⟩
  refine CfgL.eff (o := _) rfl (by kernel_rfl) (by kernel_rfl) (Eff.alloc (z := (.int .i64 0)) rfl (by kernel_rfl)) ?_
  rintro ze ⟨hze, nze⟩
  refine CfgL.done rfl ?_
  refine Conv.cfg (Γ' := [(5, [], .pointer (some ⟨ze, 0, none⟩)), (4, [], .pointer (some ⟨za, 0, none⟩)), (3, [], .pointer (some ⟨zn, 0, none⟩)), (2, [], .pointer (some ⟨zs, 0, none⟩))]) (Conv.mk (by kernel_rfl)) ?_
  refine Cfg.reg rfl [2, 3, 4, 5, 8] [(0, false, some (.pointer none))] (Γ' := [(8, [], .bool true), (5, [], .pointer (some ⟨ze, 0, none⟩)), (4, [], .pointer (some ⟨za, 0, none⟩)), (3, [], .pointer (some ⟨zn, 0, none⟩)), (2, [], .pointer (some ⟨zs, 0, none⟩))]) (nd := (fun S => [(∀ w1, S w1 → w1.cell? ⟨zs, 0, none⟩ = some (.pointer none))])) (fun _ => by kernel_rfl) ⟨(fun w1 h => h.ocell 3 rfl rfl), trivial⟩ ?_
  refine Cfg.condT rfl (b := true) (by kernel_rfl) rfl ?_
  refine Cfg.begL rfl ?_
  refine CfgL.eff (o := _) rfl (by kernel_rfl) (by kernel_rfl) (Eff.store1 (b := za) (off := 0) (v := .int .i64 0) rfl (by kernel_rfl) (by kernel_rfl) rfl (by kernel_rfl) 1 (cs := #[.int .i64 0]) (e := 3) (by kernel_rfl) (by simp)) ?_
  rintro ⟨⟩ -
  refine CfgL.eff (o := _) rfl (by kernel_rfl) (by kernel_rfl) (Eff.store1 (b := ze) (off := 0) (v := .int .i64 1) rfl (by kernel_rfl) (by kernel_rfl) rfl (by kernel_rfl) 0 (cs := #[.int .i64 0]) (e := 28) (by kernel_rfl) (by simp)) ?_
  rintro ⟨⟩ -
  refine CfgL.done rfl ?_
  refine Conv.cfg (Γ' := [(5, [], .pointer (some ⟨ze, 0, none⟩)), (4, [], .pointer (some ⟨za, 0, none⟩))]) (Conv.mk (by kernel_rfl)) ?_
  refine Cfg.retM (O' := [(ze, .cells (#[.int .i64 0].setIfInBounds 0 (.int .i64 1)) 28 (0, 0)), (za, .cells (#[.int .i64 0].setIfInBounds 0 (.int .i64 0)) 3 (0, 0)), (zn, .cells #[.int .i64 n] 3 (0, 0)), (zs, .cells #[.pointer none] 24 (0, 0))]) rfl (rs := [.cell 4 3, .cell 5 28]) rfl [.int .i64 0, .int .i64 1] (List.Sublist.refl _) ⟨⟨_, by kernel_rfl, fun w1 h => h.ovar 1 (off := 0) rfl (by kernel_rfl) rfl⟩, ⟨_, by kernel_rfl, fun w1 h => h.ovar 0 (off := 0) rfl (by kernel_rfl) rfl⟩, trivial⟩ (fun w1 hp => ?_)
  exact ⟨rfl, hp.ext⟩

end Go.Proofs.Ytmkefcjphdaoiaa
