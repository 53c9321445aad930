/- space: spaces without sectors, and none: Claim, Give, Is, Copy. -/
import Derived.Test.YtmkefcjphdaoiaaSpB
namespace Go.Proofs.Ytmkefcjphdaoiaa
open K
set_option linter.unusedVariables false

set_option maxRecDepth 100000 in
theorem turnE (s : Nat) (f : Int) (to : Bool) (la : Option Addr) (cap : Nat) (l : List (Int × Int)) (Rl : List (Nat × Obj)) (w : World) (hf : I64 f) (hI : InS Rl la (2 * l.length) (rcell l)) (hl : l.length ≤ maxLen) (h1 : ∀ i, I64 (ra l i)) (h2 : ∀ i, I64 (rl l i)) (hA : Has w [(s, .cells #[.int .i64 f, .slice none 0 0] 94 (0, 0))]) (hRl : Has w Rl) (hnr : ∀ e ∈ Rl, e.1 ∉ [s]) :
    Calls Try.prog 53 #[.pointer (some ⟨s, 0, none⟩), .bool to, .slice la l.length cap] w fun e w' => e = .returned (.int .i64 ((turnF f 0 to l []).1 : Int)) ∧ ∃ R1, HP w [s] R1 [(s, .cells #[.int .i64 f, .slice none 0 0] 94 (0, 0))] w' := by
  unfold maxLen at hl
  unfold I64 at hf h1 h2
  refine enter (vs := [.pointer (some ⟨s, 0, none⟩), .bool to, .slice la l.length cap]) [s] Rl [(s, .cells #[.int .i64 f, .slice none 0 0] 94 (0, 0))] Try.func53 rfl (by kernel_rfl) (HP.ofL hA (by simp) hRl (by simpa using hnr)) ?_
  refine Cfg.reg rfl [0, 1, 2] [] (Γ' := [(0, [], .pointer (some ⟨s, 0, none⟩)), (1, [], .bool to), (2, [], .slice la l.length cap)]) (nd := (fun _ => [])) (fun _ => by kernel_rfl) trivial ?_
  refine Cfg.reg rfl [0, 1, 2, 14] [] (Γ' := [(14, [], .bool false), (0, [], .pointer (some ⟨s, 0, none⟩)), (1, [], .bool to), (2, [], .slice la l.length cap)]) (nd := (fun _ => [])) (fun _ => by kernel_rfl) trivial ?_
  refine Cfg.condF rfl (b := false) (by kernel_rfl) rfl ?_
  refine Cfg.begL rfl ?_
  refine CfgL.pure 4 [(0, false, none), (0, false, none), (0, false, none), (0, false, some (.slice none 0 0))] none (Γ' := [(18, [], .slice none 0 0), (17, [], .pointer (some ⟨s, 1, none⟩)), (16, [], .pointer (some ⟨s, 0, none⟩)), (15, [], .pointer (some ⟨s, 0, none⟩)), (14, [], .bool false), (0, [], .pointer (some ⟨s, 0, none⟩)), (1, [], .bool to), (2, [], .slice la l.length cap)]) (nd := (fun S => [(∀ w1, S w1 → w1.cell? ⟨s, 1, none⟩ = some (.slice none 0 0))])) (by kernel_rfl) (fun _ => by kernel_rfl) ⟨(fun w1 h => h.ocell 0 rfl rfl), trivial⟩ ?_
  refine CfgL.eff (o := _) rfl (by kernel_rfl) (by kernel_rfl) (Eff.callA (vs := [.slice none 0 0]) (.slice none 0 0) rfl Try.func56 rfl rfl (by kernel_rfl) (fun w1 h => cloneN w1)) ?_
  rintro ⟨⟩ -
  refine CfgL.pure 1 [] (some [0, 1, 2, 7]) (Γ' := [(7, [], .slice none 0 0), (0, [], .pointer (some ⟨s, 0, none⟩)), (1, [], .bool to), (2, [], .slice la l.length cap)]) (nd := (fun _ => [])) (by kernel_rfl) (fun _ => by kernel_rfl) trivial ?_
  refine CfgL.done rfl ?_
  refine Cfg.reg rfl [0, 1, 7, 20, 21, 22] [] (Γ' := [(22, [], .int .i64 0), (21, [], .int .i64 (l.length : Int)), (20, [], .slice la l.length cap), (7, [], .slice none 0 0), (0, [], .pointer (some ⟨s, 0, none⟩)), (1, [], .bool to)]) (nd := (fun _ => [])) (fun _ => by kernel_rfl) trivial ?_
  refine Cfg.loop rfl (ι := Nat) (fun (i : Nat) => [(22, [], .int .i64 (i : Int)), (21, [], .int .i64 (l.length : Int)), (20, [], .slice la l.length cap), (7, [], .slice none 0 0), (0, [], .pointer (some ⟨s, 0, none⟩)), (1, [], .bool to)]) (fun (i : Nat) => [(s, .cells #[.int .i64 f, .slice none 0 0] 94 (0, 0))]) (fun (i : Nat) => (i ≤ l.length) ∧ (turnF f 0 to (l.drop i) [] = turnF f 0 to l [])) (fun (i : Nat) => l.length - i) 0 ?_ (Conv.mk (by kernel_rfl)) (.cons_cons _ .slnil) ?_
  · exact ⟨Nat.zero_le _, rfl⟩
  · rintro i ⟨hi, hT⟩
    refine Cfg.reg rfl [0, 1, 7, 20, 21, 22, 23] [] (Γ' := [(23, [], .bool (decide ((i : Int) < (l.length : Int)))), (22, [], .int .i64 (i : Int)), (21, [], .int .i64 (l.length : Int)), (20, [], .slice la l.length cap), (7, [], .slice none 0 0), (0, [], .pointer (some ⟨s, 0, none⟩)), (1, [], .bool to)]) (nd := (fun _ => [])) (fun _ => by kernel_rfl) trivial ?_
    refine Cfg.cond rfl (b := (decide ((i : Int) < (l.length : Int)))) (by kernel_rfl) (fun c2r => ?_) (fun c2r => ?_)
    · have c2 : ((i : Int) < (l.length : Int)) := (of_decide_eq_true c2r)
      obtain ⟨sb, off, cs, te, fre, rfl, hmem, hcs⟩ := hI (by omega)
      refine Conv.cfg (Γ' := [(23, [], .bool (decide ((i : Int) < (l.length : Int)))), (22, [], .int .i64 (i : Int)), (21, [], .int .i64 (l.length : Int)), (20, [], .slice (some ⟨sb, off, none⟩) l.length cap), (7, [], .slice none 0 0), (0, [], .pointer (some ⟨s, 0, none⟩)), (1, [], .bool to)]) (Conv.mk (by kernel_rfl)) ?_
      refine Cfg.begL rfl ?_
      refine CfgL.pure 2 [(0, false, none), (0, false, some (.agg #[.int .i64 (ra l i), .int .i64 (rl l i)]))] none (Γ' := [(25, [], .agg #[.int .i64 (ra l i), .int .i64 (rl l i)]), (24, [], .pointer (some ⟨sb, (addO off (i * 2)), none⟩)), (23, [], .bool (decide ((i : Int) < (l.length : Int)))), (22, [], .int .i64 (i : Int)), (21, [], .int .i64 (l.length : Int)), (20, [], .slice (some ⟨sb, off, none⟩) l.length cap), (7, [], .slice none 0 0), (0, [], .pointer (some ⟨s, 0, none⟩)), (1, [], .bool to)]) (nd := (fun S => [(0 ≤ (i : Int) ∧ (i : Int) < (l.length : Int)), (∀ w1, S w1 → (loadVar 27 ⟨sb, (addO off (i * 2)), none⟩).run Try.prog w1 = .ok (.agg #[.int .i64 (ra l i), .int .i64 (rl l i)]) w1)])) (by kernel_rfl) (fun _ => by kernel_rfl) ⟨(by omega), (fun w1 h => by rw [addO_eq]; exact run_at h hmem hcs (by omega)), trivial⟩ ?_
      refine CfgL.eff (o := _) rfl (by kernel_rfl) (by kernel_rfl) (Eff.alloc (z := (.agg #[.int .i64 0, .int .i64 0])) rfl (by kernel_rfl)) ?_
      rintro t9 ⟨ht9, nt9⟩
      refine CfgL.eff (o := _) rfl (by kernel_rfl) (by kernel_rfl) (Eff.storeN (b := t9) (off := 0) (vs := #[.int .i64 (ra l i), .int .i64 (rl l i)]) (n := 2) rfl (by kernel_rfl) (by kernel_rfl) (by kernel_rfl) rfl (two_one rfl rfl) 0 (cs := #[.int .i64 0, .int .i64 0]) (e := 27) (by kernel_rfl) (Nat.le_refl 2)) ?_
      rintro ⟨⟩ -
      refine CfgL.setO (O' := [(t9, .cells #[.int .i64 (ra l i), .int .i64 (rl l i)] 27 (0, 0)), (s, .cells #[.int .i64 f, .slice none 0 0] 94 (0, 0))]) (congrArg (fun (xq : Array Value) => ([(t9, .cells xq 27 (0, 0)), (s, .cells #[.int .i64 f, .slice none 0 0] 94 (0, 0))] : List (Nat × Obj))) (rfl)) ?_
      refine CfgL.done rfl ?_
      refine Conv.cfg (Γ' := [(9, [], .pointer (some ⟨t9, 0, none⟩)), (22, [], .int .i64 (i : Int)), (21, [], .int .i64 (l.length : Int)), (20, [], .slice (some ⟨sb, off, none⟩) l.length cap), (7, [], .slice none 0 0), (0, [], .pointer (some ⟨s, 0, none⟩)), (1, [], .bool to)]) (Conv.mk (by kernel_rfl)) ?_
      refine Cfg.reg rfl [0, 1, 7, 9, 20, 21, 22, 28] [(0, false, none), (0, false, some (.int .i64 (rl l i)))] (Γ' := [(28, [], .bool (decide ((rl l i) < (1 : Int)))), (9, [], .pointer (some ⟨t9, 0, none⟩)), (22, [], .int .i64 (i : Int)), (21, [], .int .i64 (l.length : Int)), (20, [], .slice (some ⟨sb, off, none⟩) l.length cap), (7, [], .slice none 0 0), (0, [], .pointer (some ⟨s, 0, none⟩)), (1, [], .bool to)]) (nd := (fun S => [(∀ w1, S w1 → w1.cell? ⟨t9, 1, none⟩ = some (.int .i64 (rl l i)))])) (fun _ => by kernel_rfl) ⟨(fun w1 h => h.ocell 0 rfl rfl), trivial⟩ ?_
      refine Cfg.cond rfl (b := (decide ((rl l i) < (1 : Int)))) (by kernel_rfl) (fun c3r => ?_) (fun c3r => ?_)
      · have c3 : ((rl l i) < (1 : Int)) := (of_decide_eq_true c3r)
        refine Cfg.reg rfl [6] [] (Γ' := [(6, [], .int .i64 2)]) (nd := (fun _ => [])) (fun _ => by kernel_rfl) trivial ?_
        refine Cfg.ret rfl (rs := [.tmp 6]) rfl [.int .i64 2] ⟨by kernel_rfl, trivial⟩ (fun w1 hp => ?_)
        have he : (turnF f 0 to l []).1 = 2 := by rw [← hT, turn_step (by omega), if_pos (by omega)]
        rw [he]
        exact ⟨rfl, _, hp.sub (.cons _ (.cons_cons _ .slnil))⟩
      · have c3 : (¬ ((rl l i) < (1 : Int))) := (of_decide_eq_false c3r)
        refine Cfg.begL rfl ?_
        refine CfgL.pure 3 [(0, false, none), (0, false, none), (0, false, some (.int .i64 (ra l i)))] none (Γ' := [(32, [], .int .i64 (ra l i)), (31, [], .pointer (some ⟨t9, 0, none⟩)), (30, [], .pointer (some ⟨s, 0, none⟩)), (28, [], .bool (decide ((rl l i) < (1 : Int)))), (9, [], .pointer (some ⟨t9, 0, none⟩)), (22, [], .int .i64 (i : Int)), (21, [], .int .i64 (l.length : Int)), (20, [], .slice (some ⟨sb, off, none⟩) l.length cap), (7, [], .slice none 0 0), (0, [], .pointer (some ⟨s, 0, none⟩)), (1, [], .bool to)]) (nd := (fun S => [(∀ w1, S w1 → w1.cell? ⟨t9, 0, none⟩ = some (.int .i64 (ra l i)))])) (by kernel_rfl) (fun _ => by kernel_rfl) ⟨(fun w1 h => h.ocell 0 rfl rfl), trivial⟩ ?_
        refine CfgL.eff (o := _) rfl (by kernel_rfl) (by kernel_rfl) (Eff.callA (vs := [.pointer (some ⟨s, 0, none⟩), .int .i64 (ra l i)]) (.tuple #[.int .i64 (if inP f ([] : List Bool).length (ra l i) then ra l i - f else 0), .bool (inP f ([] : List Bool).length (ra l i))]) rfl Try.func55 rfl rfl (by kernel_rfl) (fun w1 h => place s f (ra l i) none [] w1 hf (h1 i) (by simp) (h.has (fun e he => by rw [List.mem_singleton.1 he]; exact List.mem_of_getElem? (i := 1) rfl)))) ?_
        rintro ⟨⟩ -
        refine CfgL.pure 5 [] (some [0, 1, 7, 9, 10, 11, 20, 21, 22]) (Γ' := [(11, [], .bool (inP f ([] : List Bool).length (ra l i))), (10, [], .int .i64 (if inP f ([] : List Bool).length (ra l i) then ra l i - f else 0)), (9, [], .pointer (some ⟨t9, 0, none⟩)), (22, [], .int .i64 (i : Int)), (21, [], .int .i64 (l.length : Int)), (20, [], .slice (some ⟨sb, off, none⟩) l.length cap), (7, [], .slice none 0 0), (0, [], .pointer (some ⟨s, 0, none⟩)), (1, [], .bool to)]) (nd := (fun _ => [])) (by kernel_rfl) (fun _ => by kernel_rfl) trivial ?_
        refine CfgL.done rfl ?_
        refine Cfg.reg rfl [0, 1, 7, 9, 10, 20, 21, 22, 37] [] (Γ' := [(37, [], .bool (!(inP f ([] : List Bool).length (ra l i)))), (10, [], .int .i64 (if inP f ([] : List Bool).length (ra l i) then ra l i - f else 0)), (9, [], .pointer (some ⟨t9, 0, none⟩)), (22, [], .int .i64 (i : Int)), (21, [], .int .i64 (l.length : Int)), (20, [], .slice (some ⟨sb, off, none⟩) l.length cap), (7, [], .slice none 0 0), (0, [], .pointer (some ⟨s, 0, none⟩)), (1, [], .bool to)]) (nd := (fun _ => [])) (fun _ => by kernel_rfl) trivial ?_
        refine Cfg.condT rfl (b := (!(inP f ([] : List Bool).length (ra l i)))) (by kernel_rfl) (by rw [inE]; rfl) ?_
        refine Cfg.reg rfl [6] [] (Γ' := [(6, [], .int .i64 2)]) (nd := (fun _ => [])) (fun _ => by kernel_rfl) trivial ?_
        refine Cfg.ret rfl (rs := [.tmp 6]) rfl [.int .i64 2] ⟨by kernel_rfl, trivial⟩ (fun w1 hp => ?_)
        have he : (turnF f 0 to l []).1 = 2 := by rw [← hT, turn_step (by omega), if_neg (by omega), if_neg (by rw [inE0]; decide)]
        rw [he]
        exact ⟨rfl, _, hp.sub (.cons _ (.cons_cons _ .slnil))⟩
    · have c2 : (¬ ((i : Int) < (l.length : Int))) := (of_decide_eq_false c2r)
      obtain rfl : i = l.length := by omega
      rw [List.drop_length] at hT
      refine Conv.cfg (Γ' := [(21, [], .int .i64 (l.length : Int)), (20, [], .slice la l.length cap), (7, [], .slice none 0 0), (0, [], .pointer (some ⟨s, 0, none⟩))]) (Conv.mk (by kernel_rfl)) ?_
      refine Cfg.begL rfl ?_
      refine CfgL.pure 4 [] none (Γ' := [(68, [], .pointer (some ⟨s, 1, none⟩)), (67, [], .pointer (some ⟨s, 0, none⟩)), (66, [], .slice none 0 0), (65, [], .pointer (some ⟨s, 0, none⟩)), (21, [], .int .i64 (l.length : Int)), (20, [], .slice la l.length cap), (7, [], .slice none 0 0), (0, [], .pointer (some ⟨s, 0, none⟩))]) (nd := (fun _ => [])) (by kernel_rfl) (fun _ => by kernel_rfl) trivial ?_
      refine CfgL.eff (o := _) rfl (by kernel_rfl) (by kernel_rfl) (Eff.store1 (b := s) (off := 1) (v := .slice none 0 0) rfl (by kernel_rfl) (by kernel_rfl) rfl (by kernel_rfl) 0 (cs := #[.int .i64 f, .slice none 0 0]) (e := 94) (by kernel_rfl) (by simp)) ?_
      rintro ⟨⟩ -
      refine CfgL.done rfl ?_
      refine Conv.cfg (Γ' := []) (Conv.mk (by kernel_rfl)) ?_
      refine Cfg.reg rfl [6] [] (Γ' := [(6, [], .int .i64 0)]) (nd := (fun _ => [])) (fun _ => by kernel_rfl) trivial ?_
      refine Cfg.ret rfl (rs := [.tmp 6]) rfl [.int .i64 0] ⟨by kernel_rfl, trivial⟩ (fun w1 hp => ?_)
      have he : (turnF f 0 to l []).1 = 0 := by rw [← hT]; rfl
      rw [he]
      exact ⟨rfl, _, hp.sub (.cons_cons _ .slnil)⟩

set_option maxRecDepth 100000 in
theorem turnN (to : Bool) (la : Option Addr) (len cap : Nat) (w : World) :
    Calls Try.prog 53 #[.pointer none, .bool to, .slice la len cap] w fun e w' => e = .returned (.int .i64 1) ∧ Ext [] w w' := by
  refine enter (vs := [.pointer none, .bool to, .slice la len cap]) [] [] [] Try.func53 rfl (by kernel_rfl) (HP.start w) ?_
  refine Cfg.reg rfl [0, 1, 2] [] (Γ' := [(0, [], .pointer none), (1, [], .bool to), (2, [], .slice la len cap)]) (nd := (fun _ => [])) (fun _ => by kernel_rfl) trivial ?_
  refine Cfg.reg rfl [0, 1, 2, 14] [] (Γ' := [(14, [], .bool true), (0, [], .pointer none), (1, [], .bool to), (2, [], .slice la len cap)]) (nd := (fun _ => [])) (fun _ => by kernel_rfl) trivial ?_
  refine Cfg.condT rfl (b := true) (by kernel_rfl) rfl ?_
  refine Cfg.reg rfl [6] [] (Γ' := [(6, [], .int .i64 1)]) (nd := (fun _ => [])) (fun _ => by kernel_rfl) trivial ?_
  refine Cfg.ret rfl (rs := [.tmp 6]) rfl [.int .i64 1] ⟨by kernel_rfl, trivial⟩ (fun w1 hp => ?_)
  exact ⟨rfl, hp.ext⟩

set_option maxRecDepth 100000 in
theorem claimE (s : Nat) (f : Int) (la : Option Addr) (cap : Nat) (l : List (Int × Int)) (Rl : List (Nat × Obj)) (w : World) (hf : I64 f) (hI : InS Rl la (2 * l.length) (rcell l)) (hl : l.length ≤ maxLen) (h1 : ∀ i, I64 (ra l i)) (h2 : ∀ i, I64 (rl l i)) (hA : Has w [(s, .cells #[.int .i64 f, .slice none 0 0] 94 (0, 0))]) (hRl : Has w Rl) (hnr : ∀ e ∈ Rl, e.1 ∉ [s]) :
    Calls Try.prog 12 #[.pointer (some ⟨s, 0, none⟩), .slice la l.length cap] w fun e w' => e = .returned (.int .i64 ((turnF f 0 false l []).1 : Int)) ∧ ∃ R1, HP w [s] R1 [(s, .cells #[.int .i64 f, .slice none 0 0] 94 (0, 0))] w' := by
  refine enter (vs := [.pointer (some ⟨s, 0, none⟩), .slice la l.length cap]) [s] Rl [(s, .cells #[.int .i64 f, .slice none 0 0] 94 (0, 0))] Try.func12 rfl (by kernel_rfl) (HP.ofL hA (by simp) hRl (by simpa using hnr)) ?_
  refine Cfg.reg rfl [0, 1] [] (Γ' := [(0, [], .pointer (some ⟨s, 0, none⟩)), (1, [], .slice la l.length cap)]) (nd := (fun _ => [])) (fun _ => by kernel_rfl) trivial ?_
  refine Cfg.begL rfl ?_
  refine CfgL.pure 2 [] none (Γ' := [(6, [], .slice la l.length cap), (5, [], .pointer (some ⟨s, 0, none⟩)), (0, [], .pointer (some ⟨s, 0, none⟩)), (1, [], .slice la l.length cap)]) (nd := (fun _ => [])) (by kernel_rfl) (fun _ => by kernel_rfl) trivial ?_
  refine CfgL.eff (o := _) rfl (by kernel_rfl) (by kernel_rfl) (Eff.callH (vs := [.pointer (some ⟨s, 0, none⟩), .bool false, .slice la l.length cap]) (fun _ : Unit => .int .i64 ((turnF f 0 false l []).1 : Int)) [(s, .cells #[.int .i64 f, .slice none 0 0] 94 (0, 0))] (fun _ => [(s, .cells #[.int .i64 f, .slice none 0 0] 94 (0, 0))]) (fun _ => True) [] [] rfl rfl Try.func53 rfl rfl (by kernel_rfl) (fun w1 h hA1 hd1 => (turnE s f false la cap l Rl w1 hf hI hl h1 h2 hA1 (h.hasR (fun e he => he)) hnr).mono fun e w2 hx => ⟨(), trivial, hx⟩)) ?_
  rintro ⟨⟩ -
  refine CfgL.pure 1 [] (some [4]) (Γ' := [(4, [], .int .i64 ((turnF f 0 false l []).1 : Int))]) (nd := (fun _ => [])) (by kernel_rfl) (fun _ => by kernel_rfl) trivial ?_
  refine CfgL.done rfl ?_
  refine Cfg.ret rfl (rs := [.tmp 4]) rfl [.int .i64 ((turnF f 0 false l []).1 : Int)] ⟨by kernel_rfl, trivial⟩ (fun w1 hp => ?_)
  exact ⟨rfl, _, hp⟩

set_option maxRecDepth 100000 in
theorem claimN (la : Option Addr) (len cap : Nat) (w : World) :
    Calls Try.prog 12 #[.pointer none, .slice la len cap] w fun e w' => e = .returned (.int .i64 1) ∧ Ext [] w w' := by
  refine enter (vs := [.pointer none, .slice la len cap]) [] [] [] Try.func12 rfl (by kernel_rfl) (HP.start w) ?_
  refine Cfg.reg rfl [0, 1] [] (Γ' := [(0, [], .pointer none), (1, [], .slice la len cap)]) (nd := (fun _ => [])) (fun _ => by kernel_rfl) trivial ?_
  refine Cfg.begL rfl ?_
  refine CfgL.pure 2 [] none (Γ' := [(6, [], .slice la len cap), (5, [], .pointer none), (0, [], .pointer none), (1, [], .slice la len cap)]) (nd := (fun _ => [])) (by kernel_rfl) (fun _ => by kernel_rfl) trivial ?_
  refine CfgL.eff (o := _) rfl (by kernel_rfl) (by kernel_rfl) (Eff.callA (vs := [.pointer none, .bool false, .slice la len cap]) (.int .i64 1) rfl Try.func53 rfl rfl (by kernel_rfl) (fun w1 h => turnN false la len cap w1)) ?_
  rintro ⟨⟩ -
  refine CfgL.pure 1 [] (some [4]) (Γ' := [(4, [], .int .i64 1)]) (nd := (fun _ => [])) (by kernel_rfl) (fun _ => by kernel_rfl) trivial ?_
  refine CfgL.done rfl ?_
  refine Cfg.ret rfl (rs := [.tmp 4]) rfl [.int .i64 1] ⟨by kernel_rfl, trivial⟩ (fun w1 hp => ?_)
  exact ⟨rfl, hp.ext⟩

set_option maxRecDepth 100000 in
theorem giveE (s : Nat) (f : Int) (la : Option Addr) (cap : Nat) (l : List (Int × Int)) (Rl : List (Nat × Obj)) (w : World) (hf : I64 f) (hI : InS Rl la (2 * l.length) (rcell l)) (hl : l.length ≤ maxLen) (h1 : ∀ i, I64 (ra l i)) (h2 : ∀ i, I64 (rl l i)) (hA : Has w [(s, .cells #[.int .i64 f, .slice none 0 0] 94 (0, 0))]) (hRl : Has w Rl) (hnr : ∀ e ∈ Rl, e.1 ∉ [s]) :
    Calls Try.prog 18 #[.pointer (some ⟨s, 0, none⟩), .slice la l.length cap] w fun e w' => e = .returned (.int .i64 ((turnF f 0 true l []).1 : Int)) ∧ ∃ R1, HP w [s] R1 [(s, .cells #[.int .i64 f, .slice none 0 0] 94 (0, 0))] w' := by
  refine enter (vs := [.pointer (some ⟨s, 0, none⟩), .slice la l.length cap]) [s] Rl [(s, .cells #[.int .i64 f, .slice none 0 0] 94 (0, 0))] Try.func18 rfl (by kernel_rfl) (HP.ofL hA (by simp) hRl (by simpa using hnr)) ?_
  refine Cfg.reg rfl [0, 1] [] (Γ' := [(0, [], .pointer (some ⟨s, 0, none⟩)), (1, [], .slice la l.length cap)]) (nd := (fun _ => [])) (fun _ => by kernel_rfl) trivial ?_
  refine Cfg.begL rfl ?_
  refine CfgL.pure 2 [] none (Γ' := [(6, [], .slice la l.length cap), (5, [], .pointer (some ⟨s, 0, none⟩)), (0, [], .pointer (some ⟨s, 0, none⟩)), (1, [], .slice la l.length cap)]) (nd := (fun _ => [])) (by kernel_rfl) (fun _ => by kernel_rfl) trivial ?_
  refine CfgL.eff (o := _) rfl (by kernel_rfl) (by kernel_rfl) (Eff.callH (vs := [.pointer (some ⟨s, 0, none⟩), .bool true, .slice la l.length cap]) (fun _ : Unit => .int .i64 ((turnF f 0 true l []).1 : Int)) [(s, .cells #[.int .i64 f, .slice none 0 0] 94 (0, 0))] (fun _ => [(s, .cells #[.int .i64 f, .slice none 0 0] 94 (0, 0))]) (fun _ => True) [] [] rfl rfl Try.func53 rfl rfl (by kernel_rfl) (fun w1 h hA1 hd1 => (turnE s f true la cap l Rl w1 hf hI hl h1 h2 hA1 (h.hasR (fun e he => he)) hnr).mono fun e w2 hx => ⟨(), trivial, hx⟩)) ?_
  rintro ⟨⟩ -
  refine CfgL.pure 1 [] (some [4]) (Γ' := [(4, [], .int .i64 ((turnF f 0 true l []).1 : Int))]) (nd := (fun _ => [])) (by kernel_rfl) (fun _ => by kernel_rfl) trivial ?_
  refine CfgL.done rfl ?_
  refine Cfg.ret rfl (rs := [.tmp 4]) rfl [.int .i64 ((turnF f 0 true l []).1 : Int)] ⟨by kernel_rfl, trivial⟩ (fun w1 hp => ?_)
  exact ⟨rfl, _, hp⟩

set_option maxRecDepth 100000 in
theorem giveN (la : Option Addr) (len cap : Nat) (w : World) :
    Calls Try.prog 18 #[.pointer none, .slice la len cap] w fun e w' => e = .returned (.int .i64 1) ∧ Ext [] w w' := by
  refine enter (vs := [.pointer none, .slice la len cap]) [] [] [] Try.func18 rfl (by kernel_rfl) (HP.start w) ?_
  refine Cfg.reg rfl [0, 1] [] (Γ' := [(0, [], .pointer none), (1, [], .slice la len cap)]) (nd := (fun _ => [])) (fun _ => by kernel_rfl) trivial ?_
  refine Cfg.begL rfl ?_
  refine CfgL.pure 2 [] none (Γ' := [(6, [], .slice la len cap), (5, [], .pointer none), (0, [], .pointer none), (1, [], .slice la len cap)]) (nd := (fun _ => [])) (by kernel_rfl) (fun _ => by kernel_rfl) trivial ?_
  refine CfgL.eff (o := _) rfl (by kernel_rfl) (by kernel_rfl) (Eff.callA (vs := [.pointer none, .bool true, .slice la len cap]) (.int .i64 1) rfl Try.func53 rfl rfl (by kernel_rfl) (fun w1 h => turnN true la len cap w1)) ?_
  rintro ⟨⟩ -
  refine CfgL.pure 1 [] (some [4]) (Γ' := [(4, [], .int .i64 1)]) (nd := (fun _ => [])) (by kernel_rfl) (fun _ => by kernel_rfl) trivial ?_
  refine CfgL.done rfl ?_
  refine Cfg.ret rfl (rs := [.tmp 4]) rfl [.int .i64 1] ⟨by kernel_rfl, trivial⟩ (fun w1 hp => ?_)
  exact ⟨rfl, hp.ext⟩

set_option maxRecDepth 100000 in
theorem isE (s : Nat) (f q : Int) (w : World) (hf : I64 f) (hq : I64 q) (hR : Has w [(s, .cells #[.int .i64 f, .slice none 0 0] 94 (0, 0))]) :
    Calls Try.prog 15 #[.pointer (some ⟨s, 0, none⟩), .int .i64 q] w fun e w' => e = .returned (.bool false) ∧ Ext [] w w' := by
  refine enter (vs := [.pointer (some ⟨s, 0, none⟩), .int .i64 q]) [] [(s, .cells #[.int .i64 f, .slice none 0 0] 94 (0, 0))] [] Try.func15 rfl (by kernel_rfl) (HP.ofHas hR) ?_
  refine Cfg.reg rfl [0, 1] [] (Γ' := [(0, [], .pointer (some ⟨s, 0, none⟩)), (1, [], .int .i64 q)]) (nd := (fun _ => [])) (fun _ => by kernel_rfl) trivial ?_
  refine Cfg.begL rfl ?_
  refine CfgL.pure 2 [] none (Γ' := [(9, [], .int .i64 q), (8, [], .pointer (some ⟨s, 0, none⟩)), (0, [], .pointer (some ⟨s, 0, none⟩)), (1, [], .int .i64 q)]) (nd := (fun _ => [])) (by kernel_rfl) (fun _ => by kernel_rfl) trivial ?_
  refine CfgL.eff (o := _) rfl (by kernel_rfl) (by kernel_rfl) (Eff.callA (vs := [.pointer (some ⟨s, 0, none⟩), .int .i64 q]) (.tuple #[.int .i64 0, .bool false]) rfl Try.func55 rfl rfl (by kernel_rfl) (fun w1 h => (place s f q none [] w1 hf hq (by simp) (h.hasR (fun e he => by rw [List.mem_singleton.1 he]; exact List.mem_cons_self ..))).mono fun e w2 hx => by have h1 := hx.1; rw [inE] at h1; exact ⟨h1, hx.2⟩)) ?_
  rintro ⟨⟩ -
  refine CfgL.pure 5 [] (some [0, 5, 6]) (Γ' := [(6, [], .bool false), (5, [], .int .i64 0), (0, [], .pointer (some ⟨s, 0, none⟩))]) (nd := (fun _ => [])) (by kernel_rfl) (fun _ => by kernel_rfl) trivial ?_
  refine CfgL.done rfl ?_
  refine Cfg.reg rfl [4] [(0, false, none), (0, false, none), (2, false, none), (2, false, none), (2, false, none), (2, false, none), (2, false, none), (2, false, none), (2, false, none)] (Γ' := [(4, [], .bool false)]) (nd := (fun _ => [((.bool false : Value) ≠ .bool true), ((.bool false : Value) ≠ .bool true), ((.bool false : Value) ≠ .bool true), ((.bool false : Value) ≠ .bool true), ((.bool false : Value) ≠ .bool true), ((.bool false : Value) ≠ .bool true), ((.bool false : Value) ≠ .bool true)])) (fun _ => by kernel_rfl) ⟨(by simp), (by simp), (by simp), (by simp), (by simp), (by simp), (by simp), trivial⟩ ?_
  refine Cfg.ret rfl (rs := [.tmp 4]) rfl [.bool false] ⟨by kernel_rfl, trivial⟩ (fun w1 hp => ?_)
  exact ⟨rfl, hp.ext⟩

set_option maxRecDepth 100000 in
theorem isN (q : Int) (w : World) :
    Calls Try.prog 15 #[.pointer none, .int .i64 q] w fun e w' => e = .returned (.bool false) ∧ Ext [] w w' := by
  refine enter (vs := [.pointer none, .int .i64 q]) [] [] [] Try.func15 rfl (by kernel_rfl) (HP.start w) ?_
  refine Cfg.reg rfl [0, 1] [] (Γ' := [(0, [], .pointer none), (1, [], .int .i64 q)]) (nd := (fun _ => [])) (fun _ => by kernel_rfl) trivial ?_
  refine Cfg.begL rfl ?_
  refine CfgL.pure 2 [] none (Γ' := [(9, [], .int .i64 q), (8, [], .pointer none), (0, [], .pointer none), (1, [], .int .i64 q)]) (nd := (fun _ => [])) (by kernel_rfl) (fun _ => by kernel_rfl) trivial ?_
  refine CfgL.eff (o := _) rfl (by kernel_rfl) (by kernel_rfl) (Eff.callA (vs := [.pointer none, .int .i64 q]) (.tuple #[.int .i64 0, .bool false]) rfl Try.func55 rfl rfl (by kernel_rfl) (fun w1 h => placeN q w1)) ?_
  rintro ⟨⟩ -
  refine CfgL.pure 5 [] (some [0, 5, 6]) (Γ' := [(6, [], .bool false), (5, [], .int .i64 0), (0, [], .pointer none)]) (nd := (fun _ => [])) (by kernel_rfl) (fun _ => by kernel_rfl) trivial ?_
  refine CfgL.done rfl ?_
  refine Cfg.reg rfl [4] [(0, false, none), (0, false, none), (2, false, none), (2, false, none), (2, false, none), (2, false, none), (2, false, none), (2, false, none), (2, false, none)] (Γ' := [(4, [], .bool false)]) (nd := (fun _ => [((.bool false : Value) ≠ .bool true), ((.bool false : Value) ≠ .bool true), ((.bool false : Value) ≠ .bool true), ((.bool false : Value) ≠ .bool true), ((.bool false : Value) ≠ .bool true), ((.bool false : Value) ≠ .bool true), ((.bool false : Value) ≠ .bool true)])) (fun _ => by kernel_rfl) ⟨(by simp), (by simp), (by simp), (by simp), (by simp), (by simp), (by simp), trivial⟩ ?_
  refine Cfg.ret rfl (rs := [.tmp 4]) rfl [.bool false] ⟨by kernel_rfl, trivial⟩ (fun w1 hp => ?_)
  exact ⟨rfl, hp.ext⟩

set_option maxRecDepth 100000 in
theorem copyN (w : World) :
    Calls Try.prog 16 #[.pointer none] w fun e w' => e = .returned (.pointer none) ∧ Ext [] w w' := by
  refine enter (vs := [.pointer none]) [] [] [] Try.func16 rfl (by kernel_rfl) (HP.start w) ?_
  refine Cfg.reg rfl [0] [] (Γ' := [(0, [], .pointer none)]) (nd := (fun _ => [])) (fun _ => by kernel_rfl) trivial ?_
  refine Cfg.reg rfl [0, 4] [] (Γ' := [(4, [], .bool true), (0, [], .pointer none)]) (nd := (fun _ => [])) (fun _ => by kernel_rfl) trivial ?_
  refine Cfg.condT rfl (b := true) (by kernel_rfl) rfl ?_
  refine Cfg.reg rfl [2] [] (Γ' := [(2, [], .pointer none)]) (nd := (fun _ => [])) (fun _ => by kernel_rfl) trivial ?_
  refine Cfg.ret rfl (rs := [.tmp 2]) rfl [.pointer none] ⟨by kernel_rfl, trivial⟩ (fun w1 hp => ?_)
  exact ⟨rfl, hp.ext⟩

set_option maxRecDepth 100000 in
theorem copyE (s : Nat) (f : Int) (w : World) (hR : Has w [(s, .cells #[.int .i64 f, .slice none 0 0] 94 (0, 0))]) :
    Calls Try.prog 16 #[.pointer (some ⟨s, 0, none⟩)] w fun e w' => ∃ s2 : Nat, e = .returned (.pointer (some ⟨s2, 0, none⟩)) ∧ ∃ R1, HP w [] R1 [(s2, .cells #[.int .i64 f, .slice none 0 0] 94 (0, 0))] w' := by
  refine enter (vs := [.pointer (some ⟨s, 0, none⟩)]) [] [(s, .cells #[.int .i64 f, .slice none 0 0] 94 (0, 0))] [] Try.func16 rfl (by kernel_rfl) (HP.ofHas hR) ?_
  refine Cfg.reg rfl [0] [] (Γ' := [(0, [], .pointer (some ⟨s, 0, none⟩))]) (nd := (fun _ => [])) (fun _ => by kernel_rfl) trivial ?_
  refine Cfg.reg rfl [0, 4] [] (Γ' := [(4, [], .bool false), (0, [], .pointer (some ⟨s, 0, none⟩))]) (nd := (fun _ => [])) (fun _ => by kernel_rfl) trivial ?_
  refine Cfg.condF rfl (b := false) (by kernel_rfl) rfl ?_
  refine Cfg.begA rfl (by kernel_rfl) [] ?_
  refine CfgA.pure [0, 1, 2, 3, 4, 5, 6, 7] [(0, false, none), (0, false, none), (0, false, none), (0, false, some (.int .i64 f)), (0, false, none), (0, false, none), (0, false, none), (0, false, some (.slice none 0 0))] none (l' := #[true, true, true, true, true, true, true, true, false, false, false, false]) (by kernel_rfl) (by kernel_rfl) .slnil 4 rfl (Γ' := [(12, [], .slice none 0 0), (11, [], .pointer (some ⟨s, 1, none⟩)), (10, [], .pointer (some ⟨s, 0, none⟩)), (9, [], .pointer (some ⟨s, 0, none⟩)), (8, [], .int .i64 f), (7, [], .pointer (some ⟨s, 0, none⟩)), (6, [], .pointer (some ⟨s, 0, none⟩)), (5, [], .pointer (some ⟨s, 0, none⟩)), (4, [], .bool false), (0, [], .pointer (some ⟨s, 0, none⟩))]) (nd := (fun S => [(∀ w1, S w1 → w1.cell? ⟨s, 0, none⟩ = some (.int .i64 f)), (∀ w1, S w1 → w1.cell? ⟨s, 1, none⟩ = some (.slice none 0 0))])) (fun _ => by kernel_rfl) ⟨(fun w1 h => h.rcell 0 rfl rfl), (fun w1 h => h.rcell 0 rfl rfl), trivial⟩ ?_
  refine CfgA.eff 8 (o := _) rfl (by kernel_rfl) (fuel' := 3) rfl (by kernel_rfl) (by kernel_rfl) (Eff.callA (vs := [.slice none 0 0]) (.slice none 0 0) rfl Try.func56 rfl rfl (by kernel_rfl) (fun w1 h => cloneN w1)) (fun _ _ => List.nil_sublist _) ?_
  rintro ⟨⟩ -
  refine CfgA.pure [9] [(0, false, some (.agg #[.int .i64 f, .slice none 0 0]))] none (l' := #[true, true, true, true, true, true, true, true, true, true, false, false]) (by kernel_rfl) (by kernel_rfl) .slnil 2 rfl (Γ' := [(14, [], .agg #[.int .i64 f, .slice none 0 0]), (13, [], .slice none 0 0), (12, [], .slice none 0 0), (11, [], .pointer (some ⟨s, 1, none⟩)), (10, [], .pointer (some ⟨s, 0, none⟩)), (9, [], .pointer (some ⟨s, 0, none⟩)), (8, [], .int .i64 f), (7, [], .pointer (some ⟨s, 0, none⟩)), (6, [], .pointer (some ⟨s, 0, none⟩)), (5, [], .pointer (some ⟨s, 0, none⟩)), (4, [], .bool false), (0, [], .pointer (some ⟨s, 0, none⟩))]) (nd := (fun S => [(∀ w1, S w1 → (Instr.build 94 #[(0, .int .i64 f), (1, .slice none 0 0)]).run Try.prog w1 = .ok (.agg #[.int .i64 f, .slice none 0 0]) w1)])) (fun _ => by kernel_rfl) ⟨(fun _ _ => by kernel_rfl), trivial⟩ ?_
  refine CfgA.eff 10 (o := _) rfl (by kernel_rfl) (fuel' := 1) rfl (by kernel_rfl) (by kernel_rfl) (Eff.box (v := .agg #[.int .i64 f, .slice none 0 0]) rfl (by kernel_rfl)) (fun _ _ => List.nil_sublist _) ?_
  rintro s2 ⟨hs2, ns2⟩
  refine CfgA.pure [11] [] (some [2]) (l' := #[true, true, true, true, true, true, true, true, true, true, true, true]) (by kernel_rfl) (by kernel_rfl) (.cons _ .slnil) 0 rfl (Γ' := [(2, [], .pointer (some ⟨s2, 0, none⟩))]) (nd := (fun _ => [])) (fun _ => by kernel_rfl) trivial ?_
  refine CfgA.done (by kernel_rfl) ?_
  refine Cfg.ret rfl (rs := [.tmp 2]) rfl [.pointer (some ⟨s2, 0, none⟩)] ⟨by kernel_rfl, trivial⟩ (fun w1 hp => ?_)
  exact ⟨s2, rfl, _, hp⟩

set_option maxRecDepth 100000 in
theorem copyC (s b cp : Nat) (jk : List Value) (f : Int) (fr : List Bool) (w : World) (hn : 0 < fr.length) (hm : fr.length ≤ 4096) (hR : Has w (spC s f (b, cp, jk) fr)) :
    Calls Try.prog 16 #[.pointer (some ⟨s, 0, none⟩)] w fun e w' => ∃ x : Nat × Nat × Nat × List Value, e = .returned (.pointer (some ⟨x.1, 0, none⟩)) ∧ ∃ R1, HP w [] R1 (spC x.1 f x.2 fr) w' := by
  refine enter (vs := [.pointer (some ⟨s, 0, none⟩)]) [] [(s, .cells #[.int .i64 f, .slice (some ⟨b, 0, none⟩) fr.length cp] 94 (0, 0)), (b, .cells ((rb fr ++ jk).toArray) 4 (0, 0))] [] Try.func16 rfl (by kernel_rfl) (HP.ofHas hR) ?_
  refine Cfg.reg rfl [0] [] (Γ' := [(0, [], .pointer (some ⟨s, 0, none⟩))]) (nd := (fun _ => [])) (fun _ => by kernel_rfl) trivial ?_
  refine Cfg.reg rfl [0, 4] [] (Γ' := [(4, [], .bool false), (0, [], .pointer (some ⟨s, 0, none⟩))]) (nd := (fun _ => [])) (fun _ => by kernel_rfl) trivial ?_
  refine Cfg.condF rfl (b := false) (by kernel_rfl) rfl ?_
  refine Cfg.begA rfl (by kernel_rfl) [] ?_
  refine CfgA.pure [0, 1, 2, 3, 4, 5, 6, 7] [(0, false, none), (0, false, none), (0, false, none), (0, false, some (.int .i64 f)), (0, false, none), (0, false, none), (0, false, none), (0, false, some (.slice (some ⟨b, 0, none⟩) fr.length cp))] none (l' := #[true, true, true, true, true, true, true, true, false, false, false, false]) (by kernel_rfl) (by kernel_rfl) .slnil 4 rfl (Γ' := [(12, [], .slice (some ⟨b, 0, none⟩) fr.length cp), (11, [], .pointer (some ⟨s, 1, none⟩)), (10, [], .pointer (some ⟨s, 0, none⟩)), (9, [], .pointer (some ⟨s, 0, none⟩)), (8, [], .int .i64 f), (7, [], .pointer (some ⟨s, 0, none⟩)), (6, [], .pointer (some ⟨s, 0, none⟩)), (5, [], .pointer (some ⟨s, 0, none⟩)), (4, [], .bool false), (0, [], .pointer (some ⟨s, 0, none⟩))]) (nd := (fun S => [(∀ w1, S w1 → w1.cell? ⟨s, 0, none⟩ = some (.int .i64 f)), (∀ w1, S w1 → w1.cell? ⟨s, 1, none⟩ = some (.slice (some ⟨b, 0, none⟩) fr.length cp))])) (fun _ => by kernel_rfl) ⟨(fun w1 h => h.rcell 0 rfl rfl), (fun w1 h => h.rcell 0 rfl rfl), trivial⟩ ?_
  refine CfgA.eff 8 (o := _) rfl (by kernel_rfl) (fuel' := 3) rfl (by kernel_rfl) (by kernel_rfl) (Eff.callOF (vs := [.slice (some ⟨b, 0, none⟩) fr.length cp]) 4 1 fr.length (rb fr) [] [] rfl rfl Try.func56 rfl rfl (by kernel_rfl) (fun w1 h => cloneB b cp fr jk w1 hn hm (h.hasR (fun e he => by rw [List.mem_singleton.1 he]; exact List.mem_cons_of_mem _ (List.mem_cons_self ..))))) (fun _ _ => List.nil_sublist _) ?_
  rintro o2 ko2
  obtain ⟨⟨b2, cq2, j2⟩, rfl⟩ := own_some ko2 hn
  refine CfgA.setO (O' := [(b2, .cells ((rb fr ++ j2).toArray) 4 (0, 0))]) rfl ?_
  refine CfgA.pure [9] [(0, false, some (.agg #[.int .i64 f, .slice (some ⟨b2, 0, none⟩) fr.length cq2]))] none (l' := #[true, true, true, true, true, true, true, true, true, true, false, false]) (by kernel_rfl) (by kernel_rfl) (.cons _ .slnil) 2 rfl (Γ' := [(14, [], .agg #[.int .i64 f, .slice (some ⟨b2, 0, none⟩) fr.length cq2]), (13, [], .slice (some ⟨b2, 0, none⟩) fr.length cq2), (12, [], .slice (some ⟨b, 0, none⟩) fr.length cp), (11, [], .pointer (some ⟨s, 1, none⟩)), (10, [], .pointer (some ⟨s, 0, none⟩)), (9, [], .pointer (some ⟨s, 0, none⟩)), (8, [], .int .i64 f), (7, [], .pointer (some ⟨s, 0, none⟩)), (6, [], .pointer (some ⟨s, 0, none⟩)), (5, [], .pointer (some ⟨s, 0, none⟩)), (4, [], .bool false), (0, [], .pointer (some ⟨s, 0, none⟩))]) (nd := (fun S => [(∀ w1, S w1 → (Instr.build 94 #[(0, .int .i64 f), (1, .slice (some ⟨b2, 0, none⟩) fr.length cq2)]).run Try.prog w1 = .ok (.agg #[.int .i64 f, .slice (some ⟨b2, 0, none⟩) fr.length cq2]) w1)])) (fun _ => by kernel_rfl) ⟨(fun _ _ => by kernel_rfl), trivial⟩ ?_
  refine CfgA.eff 10 (o := _) rfl (by kernel_rfl) (fuel' := 1) rfl (by kernel_rfl) (by kernel_rfl) (Eff.box (v := .agg #[.int .i64 f, .slice (some ⟨b2, 0, none⟩) fr.length cq2]) rfl (by kernel_rfl)) (fun _ _ => List.nil_sublist _) ?_
  rintro s2 ⟨hs2, ns2⟩
  refine CfgA.pure [11] [] (some [2]) (l' := #[true, true, true, true, true, true, true, true, true, true, true, true]) (by kernel_rfl) (by kernel_rfl) (.cons _ (.cons _ .slnil)) 0 rfl (Γ' := [(2, [], .pointer (some ⟨s2, 0, none⟩))]) (nd := (fun _ => [])) (fun _ => by kernel_rfl) trivial ?_
  refine CfgA.done (by kernel_rfl) ?_
  refine Cfg.ret rfl (rs := [.tmp 2]) rfl [.pointer (some ⟨s2, 0, none⟩)] ⟨by kernel_rfl, trivial⟩ (fun w1 hp => ?_)
  exact ⟨(s2, b2, cq2, j2), rfl, _, hp⟩

end Go.Proofs.Ytmkefcjphdaoiaa
