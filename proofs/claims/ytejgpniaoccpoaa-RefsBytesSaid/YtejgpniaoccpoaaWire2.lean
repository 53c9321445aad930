/- wire: bytes, numbers, texts and digests laid. Conditions: what is laid is no longer than memory bears. -/
import Derived.Test.YtejgpniaoccpoaaWire1
namespace Go.Proofs.Ytejgpniaoccpoaa
open K
set_option linter.unusedVariables false

/-- Things as bytes, one behind the other. -/
def flat {α : Type} (f : α → List UInt8) (l : List α) : List UInt8 := l.flatMap f
theorem flat_app {α : Type} (f : α → List UInt8) (a b : List α) : flat f (a ++ b) = flat f a ++ flat f b := List.flatMap_append ..
theorem flat_succ {α : Type} {f : α → List UInt8} {l : List α} {i : Nat} (d : α) (h : i < l.length) : flat f (l.take (i + 1)) = flat f (l.take i) ++ f (l.getD i d) := by
  rw [List.take_succ_eq_append_getElem h, flat_app]
  simp [flat, List.getElem?_eq_getElem h]
theorem flat_part {α : Type} {f : α → List UInt8} {l : List α} {i : Nat} (d : α) (h : i < l.length) : (flat f (l.take i)).length + (f (l.getD i d)).length ≤ (flat f l).length := by
  have h1 := flat_succ (f := f) d h
  have h2 : flat f l = flat f (l.take (i + 1)) ++ flat f (l.drop (i + 1)) := by rw [← flat_app, List.take_append_drop]
  rw [h2, h1, List.length_append, List.length_append]; omega
theorem flat_nil {α : Type} (f : α → List UInt8) : flat f [] = [] := rfl
theorem cat_tx (l : List UInt8) : cat [tx l] = l := by rw [cat_one, tx_list]
def four (n : Nat) : List UInt8 := be n 4
def eight (n : Nat) : List UInt8 := be n 8
def text4 (s : ByteArray) : List UInt8 := be s.size 4 ++ s.data.toList
theorem wNumMod (x : Nat) (hx : x < 9223372036854775808) (w : World) : Calls Try.prog 45 #[.int .u64 ((x : Int) % 18446744073709551616), .int .i64 4] w fun e w' => e = .returned (.string (beS x 4)) ∧ Ext [] w w' := by
  rw [show ((x : Int) % 18446744073709551616) = (x : Int) by omega]; exact wNumber4 x w (by omega)
theorem HP.notin {w0 w : World} {M : List Nat} {R Fl A T : List (Nat × Obj)} {d : Nat} {ob : Obj} (h : HP w0 M R (Fl ++ (A ++ T)) w) (hm : (d, ob) ∈ Fl) : d ∉ A.map (·.1) := by
  intro hx
  have hd := h.dist
  rw [List.map_append, List.map_append] at hd
  exact (List.nodup_append.1 hd).2.2 d (List.mem_map.2 ⟨_, hm, rfl⟩) d (List.mem_append_left _ hx) rfl

theorem zsz32 : (bv (List.replicate 32 0)).size = 32 := rfl

set_option maxRecDepth 100000 in
theorem wFour (s : ByteArray) (la : Option Addr) (cap : Nat) (xs : List Nat) (Rl : List (Nat × Obj)) (w : World) (hI : InS Rl la xs.length (fun j => .int .u32 ((xs.getD j 0 : Nat) : Int))) (hR : Has w Rl) (hn : xs.length ≤ maxLen) (hr : s.size + (flat four xs).length ≤ 140737488355328) (hx : ∀ i, xs.getD i 0 < 4294967296) :
    Calls Try.prog 48 #[.agg #[.string s], .slice la xs.length cap] w fun e w' => e = .returned (.agg #[.string (tx (s.data.toList ++ flat four xs))]) ∧ Ext [] w w' := by
  unfold maxLen at hn
  refine enter (vs := [.agg #[.string s], .slice la xs.length cap]) [] Rl [] Try.func48 rfl (by kernel_rfl) (HP.ofHas hR) ?_
  refine Cfg.begL rfl ?_
  refine CfgL.eff (o := _) rfl (by kernel_rfl) (by kernel_rfl) (Eff.box (v := .agg #[.string s]) rfl (by kernel_rfl)) ?_
  rintro o ⟨ho, no⟩
  refine CfgL.eff (o := _) rfl (by kernel_rfl) (by kernel_rfl) (Eff.alloc (z := (.agg #[.string ByteArray.empty])) rfl (by kernel_rfl)) ?_
  rintro rs ⟨hrs, nrs⟩
  refine CfgL.done rfl ?_
  refine Conv.cfg (Γ' := [(4, [], .pointer (some ⟨rs, 0, none⟩)), (2, [], .pointer (some ⟨o, 0, none⟩)), (1, [], .slice la xs.length cap)]) (Conv.mk (by kernel_rfl)) ?_
  refine Cfg.begL rfl ?_
  refine CfgL.eff (o := _) rfl (by kernel_rfl) (by kernel_rfl) (Eff.allocB 5 [(rs, .cells #[.string ByteArray.empty] 52 (0, 0)), (o, .cells #[.string s] 52 (0, 0))] [] rfl rfl (by kernel_rfl)) ?_
  rintro b ⟨hb, nb⟩
  refine CfgL.done rfl ?_
  refine Cfg.reg rfl [2, 4, 5, 8, 9, 10] [] (Γ' := [(10, [], .int .i64 0), (9, [], .int .i64 (xs.length : Int)), (8, [], .slice la xs.length cap), (5, [], .pointer (some ⟨b, 0, none⟩)), (4, [], .pointer (some ⟨rs, 0, none⟩)), (2, [], .pointer (some ⟨o, 0, none⟩))]) (nd := (fun _ => [])) (fun _ => by kernel_rfl) trivial ?_
  refine Cfg.setO (O' := ([(rs, .cells #[.string ByteArray.empty] 52 (0, 0)), (o, .cells #[.string s] 52 (0, 0))] ++ (bl 84 5 b (flat four (xs.take 0)) bd0 ++ []))) (congrArg (fun (xq : List UInt8) => (([(rs, .cells #[.string ByteArray.empty] 52 (0, 0)), (o, .cells #[.string s] 52 (0, 0))] ++ (bl 84 5 b xq bd0 ++ [])) : List (Nat × Obj))) (by rw [List.take_zero]; rfl)) ?_
  refine Cfg.loop rfl (ι := Nat × Bd) (fun (xz : Nat × Bd) => match xz with | (i, B) => [(10, [], .int .i64 (i : Int)), (9, [], .int .i64 (xs.length : Int)), (8, [], .slice la xs.length cap), (5, [], .pointer (some ⟨b, 0, none⟩)), (4, [], .pointer (some ⟨rs, 0, none⟩)), (2, [], .pointer (some ⟨o, 0, none⟩))]) (fun (xz : Nat × Bd) => match xz with | (i, B) => ([(rs, .cells #[.string ByteArray.empty] 52 (0, 0)), (o, .cells #[.string s] 52 (0, 0))] ++ (bl 84 5 b (flat four (xs.take i)) B ++ []))) (fun (xz : Nat × Bd) => match xz with | (i, B) => (i ≤ xs.length) ∧ (BdOk b (flat four (xs.take i)) B)) (fun (xz : Nat × Bd) => match xz with | (i, B) => xs.length - i) (0, bd0) ?_ (Conv.mk (by kernel_rfl)) (List.Sublist.refl _) ?_
  · exact ⟨Nat.zero_le _, by rw [List.take_zero]; exact (bd0_ok b)⟩
  · rintro ⟨i, B⟩ ⟨hi, hB⟩
    have hpart := fun (hlt : i < xs.length) => flat_part (f := four) 0 hlt
    refine Cfg.reg rfl [2, 4, 5, 8, 9, 10, 11] [] (Γ' := [(11, [], .bool (decide ((i : Int) < (xs.length : Int)))), (10, [], .int .i64 (i : Int)), (9, [], .int .i64 (xs.length : Int)), (8, [], .slice la xs.length cap), (5, [], .pointer (some ⟨b, 0, none⟩)), (4, [], .pointer (some ⟨rs, 0, none⟩)), (2, [], .pointer (some ⟨o, 0, none⟩))]) (nd := (fun _ => [])) (fun _ => by kernel_rfl) trivial ?_
    refine Cfg.cond rfl (b := (decide ((i : Int) < (xs.length : Int)))) (by kernel_rfl) (fun c1r => ?_) (fun c1r => ?_)
    · have c1 : ((i : Int) < (xs.length : Int)) := (of_decide_eq_true c1r)
      have hpt := hpart (by omega)
      obtain ⟨sb, off, cs, te, fre, rfl, hmem, hcs⟩ := hI (by omega)
      refine Conv.cfg (Γ' := [(11, [], .bool (decide ((i : Int) < (xs.length : Int)))), (10, [], .int .i64 (i : Int)), (9, [], .int .i64 (xs.length : Int)), (8, [], .slice (some ⟨sb, off, none⟩) xs.length cap), (5, [], .pointer (some ⟨b, 0, none⟩)), (4, [], .pointer (some ⟨rs, 0, none⟩)), (2, [], .pointer (some ⟨o, 0, none⟩))]) (Conv.mk (by kernel_rfl)) ?_
      refine Cfg.reg rfl [2, 4, 5, 7, 8, 9, 10] [(0, false, none), (0, false, some (.int .u32 ((xs.getD i 0) : Int)))] (Γ' := [(7, [], .int .u32 ((xs.getD i 0) : Int)), (10, [], .int .i64 (i : Int)), (9, [], .int .i64 (xs.length : Int)), (8, [], .slice (some ⟨sb, off, none⟩) xs.length cap), (5, [], .pointer (some ⟨b, 0, none⟩)), (4, [], .pointer (some ⟨rs, 0, none⟩)), (2, [], .pointer (some ⟨o, 0, none⟩))]) (nd := (fun S => [(0 ≤ (i : Int) ∧ (i : Int) < (xs.length : Int)), (∀ w1, S w1 → w1.cell? ⟨sb, (addO off i), none⟩ = some (.int .u32 ((xs.getD i 0) : Int)))])) (fun _ => by kernel_rfl) ⟨(by omega), (fun w1 h => by rw [addO_eq]; exact (cell_cells (h.ro _ hmem)).trans (hcs i (by omega))), trivial⟩ ?_
      refine Cfg.begL rfl ?_
      refine CfgL.pure 2 [] none (Γ' := [(15, [], .int .u64 ((xs.getD i 0) : Int)), (14, [], .int .u32 ((xs.getD i 0) : Int)), (7, [], .int .u32 ((xs.getD i 0) : Int)), (10, [], .int .i64 (i : Int)), (9, [], .int .i64 (xs.length : Int)), (8, [], .slice (some ⟨sb, off, none⟩) xs.length cap), (5, [], .pointer (some ⟨b, 0, none⟩)), (4, [], .pointer (some ⟨rs, 0, none⟩)), (2, [], .pointer (some ⟨o, 0, none⟩))]) (nd := (fun _ => [((0 : Int) ≤ ((xs.getD i 0) : Int) ∧ ((xs.getD i 0) : Int) ≤ 18446744073709551615)])) (by kernel_rfl) (fun _ => by kernel_rfl) ⟨(by have := hx i; omega), trivial⟩ ?_
      refine CfgL.eff (o := _) rfl (by kernel_rfl) (by kernel_rfl) (Eff.callA (vs := [.int .u64 ((xs.getD i 0) : Int), .int .i64 4]) (.string (beS ((xs.getD i 0)) 4)) rfl Try.func45 rfl rfl (by kernel_rfl) (fun w1 _ => wNumber4 ((xs.getD i 0)) w1 (by have := hx i; omega))) ?_
      rintro ⟨⟩ -
      refine CfgL.eff (o := _) rfl (by kernel_rfl) (by kernel_rfl) (Eff.callH (vs := [.pointer (some ⟨b, 0, none⟩), .string (beS ((xs.getD i 0)) 4)]) (fun _ => (.tuple #[.int .i64 ((beS ((xs.getD i 0)) 4).size : Int), .nilIface] : Value)) (bl 84 5 b (flat four (xs.take i)) B) (fun B1 => bl 84 5 b ((flat four (xs.take i)) ++ (beS ((xs.getD i 0)) 4).data.toList) B1) (fun B1 => BdOk b ((flat four (xs.take i)) ++ (beS ((xs.getD i 0)) 4).data.toList) B1) [(rs, .cells #[.string ByteArray.empty] 52 (0, 0)), (o, .cells #[.string s] 52 (0, 0))] [] (by rfl) rfl Try.func44 rfl rfl (by kernel_rfl) (fun w1 h hh hd => bWriteString b (flat four (xs.take i)) B (beS ((xs.getD i 0)) 4) w1 hB hh hd (by rw [beS_size]; have : (four (xs.getD i 0)).length = 4 := be_len _ _; omega))) ?_
      rintro B2 kB2
      refine CfgL.done rfl ?_
      refine Conv.cfg (Γ' := [(10, [], .int .i64 (i : Int)), (9, [], .int .i64 (xs.length : Int)), (8, [], .slice (some ⟨sb, off, none⟩) xs.length cap), (5, [], .pointer (some ⟨b, 0, none⟩)), (4, [], .pointer (some ⟨rs, 0, none⟩)), (2, [], .pointer (some ⟨o, 0, none⟩))]) (Conv.mk (by kernel_rfl)) ?_
      refine Cfg.reg rfl [2, 4, 5, 8, 9, 10] [] (Γ' := [(10, [], .int .i64 ((i : Int) + 1)), (9, [], .int .i64 (xs.length : Int)), (8, [], .slice (some ⟨sb, off, none⟩) xs.length cap), (5, [], .pointer (some ⟨b, 0, none⟩)), (4, [], .pointer (some ⟨rs, 0, none⟩)), (2, [], .pointer (some ⟨o, 0, none⟩))]) (nd := (fun _ => [((-9223372036854775808 : Int) ≤ ((i : Int) + 1) ∧ ((i : Int) + 1) ≤ 9223372036854775807)])) (fun _ => by kernel_rfl) ⟨(by omega), trivial⟩ ?_
      have hcs2 : ((flat four (xs.take i)) ++ (beS ((xs.getD i 0)) 4).data.toList) = (flat four (xs.take (i + 1))) := by rw [flat_succ 0 (by omega)]; rfl
      refine Cfg.setO (O' := ([(rs, .cells #[.string ByteArray.empty] 52 (0, 0)), (o, .cells #[.string s] 52 (0, 0))] ++ (bl 84 5 b (flat four (xs.take (i + 1))) B2 ++ []))) (congrArg (fun (xq : List UInt8) => (([(rs, .cells #[.string ByteArray.empty] 52 (0, 0)), (o, .cells #[.string s] 52 (0, 0))] ++ (bl 84 5 b xq B2 ++ [])) : List (Nat × Obj))) (hcs2)) ?_
      refine Cfg.again rfl (i + 1, B2) ⟨by omega, hcs2 ▸ kB2⟩ (by show xs.length - (i + 1) < xs.length - i; omega) (Conv.mk (by kernel_rfl)) (.cons_cons _ (.cons_cons _ (List.Sublist.refl _)))
    · have c1 : (¬ ((i : Int) < (xs.length : Int))) := (of_decide_eq_false c1r)
      obtain rfl : i = xs.length := by omega
      refine Cfg.setO (O' := ([(rs, .cells #[.string ByteArray.empty] 52 (0, 0)), (o, .cells #[.string s] 52 (0, 0))] ++ (bl 84 5 b (flat four xs) B ++ []))) (congrArg (fun (xq : List UInt8) => (([(rs, .cells #[.string ByteArray.empty] 52 (0, 0)), (o, .cells #[.string s] 52 (0, 0))] ++ (bl 84 5 b xq B ++ [])) : List (Nat × Obj))) (by rw [List.take_length])) ?_
      rw [List.take_length] at hB
      refine Conv.cfg (Γ' := [(9, [], .int .i64 (xs.length : Int)), (8, [], .slice la xs.length cap), (5, [], .pointer (some ⟨b, 0, none⟩)), (4, [], .pointer (some ⟨rs, 0, none⟩)), (2, [], .pointer (some ⟨o, 0, none⟩))]) (Conv.mk (by kernel_rfl)) ?_
      refine Cfg.begA rfl (by kernel_rfl) [(o, .cells #[.string s] 52 (0, 0))] ?_
      refine CfgA.pure [0] [(0, false, some (.agg #[.string s]))] none (l' := #[true, false, false, false, false]) (by kernel_rfl) (by kernel_rfl) (.cons _ (.cons_cons _ (List.Sublist.trans (List.Sublist.refl _) (List.sublist_append_right _ _)))) 4 rfl (Γ' := [(19, [], .agg #[.string s]), (9, [], .int .i64 (xs.length : Int)), (8, [], .slice la xs.length cap), (5, [], .pointer (some ⟨b, 0, none⟩)), (4, [], .pointer (some ⟨rs, 0, none⟩)), (2, [], .pointer (some ⟨o, 0, none⟩))]) (nd := (fun S => [(∀ w1, S w1 → (loadVar 52 ⟨o, 0, none⟩).run Try.prog w1 = .ok (.agg #[.string s]) w1)])) (fun _ => by kernel_rfl) ⟨(fun w1 h => h.oload 0 rfl Try.underlying52 rfl (n := 1) (by kernel_rfl) rfl), trivial⟩ ?_
      refine CfgA.eff 1 (o := _) rfl (by kernel_rfl) (fuel' := 3) rfl (by kernel_rfl) (by kernel_rfl) (Eff.callH (vs := [.pointer (some ⟨b, 0, none⟩)]) (fun _ : Unit => (.string (tx (flat four xs)) : Value)) (bl 84 5 b (flat four xs) B) (fun _ => []) (fun _ => True) [(rs, .cells #[.string ByteArray.empty] 52 (0, 0)), (o, .cells #[.string s] 52 (0, 0))] [] (by rfl) rfl Try.func47 rfl rfl (by kernel_rfl) (fun w1 h hh hd => bString b (flat four xs) B w1 hB hh hd (by omega))) (fun _ _ => (.cons _ (.cons_cons _ .slnil))) ?_
      rintro ⟨⟩ -
      refine CfgA.eff 2 (o := _) rfl (by kernel_rfl) (fuel' := 2) rfl (by kernel_rfl) (by kernel_rfl) (Eff.buildSlice (e := 9) (cells := #[.string (tx (flat four xs))]) (parts := #[(0, .string (tx (flat four xs)))]) rfl (by kernel_rfl) (fun _ => by kernel_rfl)) (fun _ _ => (.cons _ (.cons _ (.cons_cons _ .slnil)))) ?_
      rintro x3 ⟨hx3, nx3⟩
      refine CfgA.eff 3 (o := _) rfl (by kernel_rfl) (fuel' := 1) rfl (by kernel_rfl) (by kernel_rfl) (Eff.callA (vs := [.agg #[.string s], .slice (some ⟨x3, 0, none⟩) 1 1]) (.agg #[.string (tx (s.data.toList ++ cat [(tx (flat four xs))]))]) rfl Try.func46 rfl rfl (by kernel_rfl) (fun w1 h => wWith s (some ⟨x3, 0, none⟩) 1 [(tx (flat four xs))] [(x3, .cells (List.map Value.string [(tx (flat four xs))]).toArray 9 (0, 0))] w1 (inS_lit x3 9 (0, 0) [(tx (flat four xs))]) (h.has (fun e he => List.mem_of_getElem? (i := 0) (by rw [List.mem_singleton.1 he]; rfl))) (one_len _) (by rw [cat_tx]; omega))) (fun _ _ => (.cons _ (.cons _ (.cons_cons _ .slnil)))) ?_
      rintro ⟨⟩ -
      refine CfgA.eff 4 (o := _) rfl (by kernel_rfl) (fuel' := 0) rfl (by kernel_rfl) (by kernel_rfl) (Eff.storeN (b := rs) (off := 0) (vs := #[.string (tx (s.data.toList ++ cat [(tx (flat four xs))]))]) (n := 1) rfl (by kernel_rfl) (by kernel_rfl) (by kernel_rfl) rfl (by simp [one]) 1 (cs := #[.string ByteArray.empty]) (e := 52) (by kernel_rfl) (by simp)) (fun _ _ => (.cons _ (.cons _ (.cons_cons _ .slnil)))) ?_
      rintro ⟨⟩ -
      refine CfgA.setO (O' := [(x3, .cells #[.string (tx (flat four xs))] 9 (0, 0)), (rs, .cells #[.string (tx (s.data.toList ++ cat [(tx (flat four xs))]))] 52 (0, 0)), (o, .cells #[.string s] 52 (0, 0))]) (congrArg (fun (xq : Array Value) => ([(x3, .cells #[.string (tx (flat four xs))] 9 (0, 0)), (rs, .cells xq 52 (0, 0)), (o, .cells #[.string s] 52 (0, 0))] : List (Nat × Obj))) (rfl)) ?_
      refine CfgA.done (by kernel_rfl) ?_
      refine Conv.cfg (Γ' := [(4, [], .pointer (some ⟨rs, 0, none⟩))]) (Conv.mk (by kernel_rfl)) ?_
      refine Cfg.ret rfl (rs := [.cell 4 52]) rfl [.agg #[.string (tx (s.data.toList ++ cat [(tx (flat four xs))]))]] ⟨⟨_, by kernel_rfl, (fun w1 h => h.oload 1 rfl Try.underlying52 rfl (n := 1) (by kernel_rfl) rfl)⟩, trivial⟩ (fun w1 hp => ?_)
      exact ⟨by rw [cat_tx]; rfl, hp.ext⟩

set_option maxRecDepth 100000 in
theorem wEight (s : ByteArray) (la : Option Addr) (cap : Nat) (xs : List Nat) (Rl : List (Nat × Obj)) (w : World) (hI : InS Rl la xs.length (fun j => .int .u64 ((xs.getD j 0 : Nat) : Int))) (hR : Has w Rl) (hn : xs.length ≤ maxLen) (hr : s.size + (flat eight xs).length ≤ 140737488355328) (hx : ∀ i, xs.getD i 0 < 18446744073709551616) :
    Calls Try.prog 19 #[.agg #[.string s], .slice la xs.length cap] w fun e w' => e = .returned (.agg #[.string (tx (s.data.toList ++ flat eight xs))]) ∧ Ext [] w w' := by
  unfold maxLen at hn
  refine enter (vs := [.agg #[.string s], .slice la xs.length cap]) [] Rl [] Try.func19 rfl (by kernel_rfl) (HP.ofHas hR) ?_
  refine Cfg.begL rfl ?_
  refine CfgL.eff (o := _) rfl (by kernel_rfl) (by kernel_rfl) (Eff.box (v := .agg #[.string s]) rfl (by kernel_rfl)) ?_
  rintro o ⟨ho, no⟩
  refine CfgL.eff (o := _) rfl (by kernel_rfl) (by kernel_rfl) (Eff.alloc (z := (.agg #[.string ByteArray.empty])) rfl (by kernel_rfl)) ?_
  rintro rs ⟨hrs, nrs⟩
  refine CfgL.done rfl ?_
  refine Conv.cfg (Γ' := [(4, [], .pointer (some ⟨rs, 0, none⟩)), (2, [], .pointer (some ⟨o, 0, none⟩)), (1, [], .slice la xs.length cap)]) (Conv.mk (by kernel_rfl)) ?_
  refine Cfg.begL rfl ?_
  refine CfgL.eff (o := _) rfl (by kernel_rfl) (by kernel_rfl) (Eff.allocB 5 [(rs, .cells #[.string ByteArray.empty] 52 (0, 0)), (o, .cells #[.string s] 52 (0, 0))] [] rfl rfl (by kernel_rfl)) ?_
  rintro b ⟨hb, nb⟩
  refine CfgL.done rfl ?_
  refine Cfg.reg rfl [2, 4, 5, 8, 9, 10] [] (Γ' := [(10, [], .int .i64 0), (9, [], .int .i64 (xs.length : Int)), (8, [], .slice la xs.length cap), (5, [], .pointer (some ⟨b, 0, none⟩)), (4, [], .pointer (some ⟨rs, 0, none⟩)), (2, [], .pointer (some ⟨o, 0, none⟩))]) (nd := (fun _ => [])) (fun _ => by kernel_rfl) trivial ?_
  refine Cfg.setO (O' := ([(rs, .cells #[.string ByteArray.empty] 52 (0, 0)), (o, .cells #[.string s] 52 (0, 0))] ++ (bl 84 5 b (flat eight (xs.take 0)) bd0 ++ []))) (congrArg (fun (xq : List UInt8) => (([(rs, .cells #[.string ByteArray.empty] 52 (0, 0)), (o, .cells #[.string s] 52 (0, 0))] ++ (bl 84 5 b xq bd0 ++ [])) : List (Nat × Obj))) (by rw [List.take_zero]; rfl)) ?_
  refine Cfg.loop rfl (ι := Nat × Bd) (fun (xz : Nat × Bd) => match xz with | (i, B) => [(10, [], .int .i64 (i : Int)), (9, [], .int .i64 (xs.length : Int)), (8, [], .slice la xs.length cap), (5, [], .pointer (some ⟨b, 0, none⟩)), (4, [], .pointer (some ⟨rs, 0, none⟩)), (2, [], .pointer (some ⟨o, 0, none⟩))]) (fun (xz : Nat × Bd) => match xz with | (i, B) => ([(rs, .cells #[.string ByteArray.empty] 52 (0, 0)), (o, .cells #[.string s] 52 (0, 0))] ++ (bl 84 5 b (flat eight (xs.take i)) B ++ []))) (fun (xz : Nat × Bd) => match xz with | (i, B) => (i ≤ xs.length) ∧ (BdOk b (flat eight (xs.take i)) B)) (fun (xz : Nat × Bd) => match xz with | (i, B) => xs.length - i) (0, bd0) ?_ (Conv.mk (by kernel_rfl)) (List.Sublist.refl _) ?_
  · exact ⟨Nat.zero_le _, by rw [List.take_zero]; exact (bd0_ok b)⟩
  · rintro ⟨i, B⟩ ⟨hi, hB⟩
    have hpart := fun (hlt : i < xs.length) => flat_part (f := eight) 0 hlt
    refine Cfg.reg rfl [2, 4, 5, 8, 9, 10, 11] [] (Γ' := [(11, [], .bool (decide ((i : Int) < (xs.length : Int)))), (10, [], .int .i64 (i : Int)), (9, [], .int .i64 (xs.length : Int)), (8, [], .slice la xs.length cap), (5, [], .pointer (some ⟨b, 0, none⟩)), (4, [], .pointer (some ⟨rs, 0, none⟩)), (2, [], .pointer (some ⟨o, 0, none⟩))]) (nd := (fun _ => [])) (fun _ => by kernel_rfl) trivial ?_
    refine Cfg.cond rfl (b := (decide ((i : Int) < (xs.length : Int)))) (by kernel_rfl) (fun c1r => ?_) (fun c1r => ?_)
    · have c1 : ((i : Int) < (xs.length : Int)) := (of_decide_eq_true c1r)
      have hpt := hpart (by omega)
      obtain ⟨sb, off, cs, te, fre, rfl, hmem, hcs⟩ := hI (by omega)
      refine Conv.cfg (Γ' := [(11, [], .bool (decide ((i : Int) < (xs.length : Int)))), (10, [], .int .i64 (i : Int)), (9, [], .int .i64 (xs.length : Int)), (8, [], .slice (some ⟨sb, off, none⟩) xs.length cap), (5, [], .pointer (some ⟨b, 0, none⟩)), (4, [], .pointer (some ⟨rs, 0, none⟩)), (2, [], .pointer (some ⟨o, 0, none⟩))]) (Conv.mk (by kernel_rfl)) ?_
      refine Cfg.reg rfl [2, 4, 5, 7, 8, 9, 10] [(0, false, none), (0, false, some (.int .u64 ((xs.getD i 0) : Int)))] (Γ' := [(7, [], .int .u64 ((xs.getD i 0) : Int)), (10, [], .int .i64 (i : Int)), (9, [], .int .i64 (xs.length : Int)), (8, [], .slice (some ⟨sb, off, none⟩) xs.length cap), (5, [], .pointer (some ⟨b, 0, none⟩)), (4, [], .pointer (some ⟨rs, 0, none⟩)), (2, [], .pointer (some ⟨o, 0, none⟩))]) (nd := (fun S => [(0 ≤ (i : Int) ∧ (i : Int) < (xs.length : Int)), (∀ w1, S w1 → w1.cell? ⟨sb, (addO off i), none⟩ = some (.int .u64 ((xs.getD i 0) : Int)))])) (fun _ => by kernel_rfl) ⟨(by omega), (fun w1 h => by rw [addO_eq]; exact (cell_cells (h.ro _ hmem)).trans (hcs i (by omega))), trivial⟩ ?_
      refine Cfg.begL rfl ?_
      refine CfgL.pure 1 [] none (Γ' := [(14, [], .int .u64 ((xs.getD i 0) : Int)), (7, [], .int .u64 ((xs.getD i 0) : Int)), (10, [], .int .i64 (i : Int)), (9, [], .int .i64 (xs.length : Int)), (8, [], .slice (some ⟨sb, off, none⟩) xs.length cap), (5, [], .pointer (some ⟨b, 0, none⟩)), (4, [], .pointer (some ⟨rs, 0, none⟩)), (2, [], .pointer (some ⟨o, 0, none⟩))]) (nd := (fun _ => [])) (by kernel_rfl) (fun _ => by kernel_rfl) trivial ?_
      refine CfgL.eff (o := _) rfl (by kernel_rfl) (by kernel_rfl) (Eff.callA (vs := [.int .u64 ((xs.getD i 0) : Int), .int .i64 8]) (.string (beS ((xs.getD i 0)) 8)) rfl Try.func45 rfl rfl (by kernel_rfl) (fun w1 _ => wNumber8 ((xs.getD i 0)) w1 (by have := hx i; omega))) ?_
      rintro ⟨⟩ -
      refine CfgL.eff (o := _) rfl (by kernel_rfl) (by kernel_rfl) (Eff.callH (vs := [.pointer (some ⟨b, 0, none⟩), .string (beS ((xs.getD i 0)) 8)]) (fun _ => (.tuple #[.int .i64 ((beS ((xs.getD i 0)) 8).size : Int), .nilIface] : Value)) (bl 84 5 b (flat eight (xs.take i)) B) (fun B1 => bl 84 5 b ((flat eight (xs.take i)) ++ (beS ((xs.getD i 0)) 8).data.toList) B1) (fun B1 => BdOk b ((flat eight (xs.take i)) ++ (beS ((xs.getD i 0)) 8).data.toList) B1) [(rs, .cells #[.string ByteArray.empty] 52 (0, 0)), (o, .cells #[.string s] 52 (0, 0))] [] (by rfl) rfl Try.func44 rfl rfl (by kernel_rfl) (fun w1 h hh hd => bWriteString b (flat eight (xs.take i)) B (beS ((xs.getD i 0)) 8) w1 hB hh hd (by rw [beS_size]; have : (eight (xs.getD i 0)).length = 8 := be_len _ _; omega))) ?_
      rintro B2 kB2
      refine CfgL.done rfl ?_
      refine Conv.cfg (Γ' := [(10, [], .int .i64 (i : Int)), (9, [], .int .i64 (xs.length : Int)), (8, [], .slice (some ⟨sb, off, none⟩) xs.length cap), (5, [], .pointer (some ⟨b, 0, none⟩)), (4, [], .pointer (some ⟨rs, 0, none⟩)), (2, [], .pointer (some ⟨o, 0, none⟩))]) (Conv.mk (by kernel_rfl)) ?_
      refine Cfg.reg rfl [2, 4, 5, 8, 9, 10] [] (Γ' := [(10, [], .int .i64 ((i : Int) + 1)), (9, [], .int .i64 (xs.length : Int)), (8, [], .slice (some ⟨sb, off, none⟩) xs.length cap), (5, [], .pointer (some ⟨b, 0, none⟩)), (4, [], .pointer (some ⟨rs, 0, none⟩)), (2, [], .pointer (some ⟨o, 0, none⟩))]) (nd := (fun _ => [((-9223372036854775808 : Int) ≤ ((i : Int) + 1) ∧ ((i : Int) + 1) ≤ 9223372036854775807)])) (fun _ => by kernel_rfl) ⟨(by omega), trivial⟩ ?_
      have hcs2 : ((flat eight (xs.take i)) ++ (beS ((xs.getD i 0)) 8).data.toList) = (flat eight (xs.take (i + 1))) := by rw [flat_succ 0 (by omega)]; rfl
      refine Cfg.setO (O' := ([(rs, .cells #[.string ByteArray.empty] 52 (0, 0)), (o, .cells #[.string s] 52 (0, 0))] ++ (bl 84 5 b (flat eight (xs.take (i + 1))) B2 ++ []))) (congrArg (fun (xq : List UInt8) => (([(rs, .cells #[.string ByteArray.empty] 52 (0, 0)), (o, .cells #[.string s] 52 (0, 0))] ++ (bl 84 5 b xq B2 ++ [])) : List (Nat × Obj))) (hcs2)) ?_
      refine Cfg.again rfl (i + 1, B2) ⟨by omega, hcs2 ▸ kB2⟩ (by show xs.length - (i + 1) < xs.length - i; omega) (Conv.mk (by kernel_rfl)) (.cons_cons _ (.cons_cons _ (List.Sublist.refl _)))
    · have c1 : (¬ ((i : Int) < (xs.length : Int))) := (of_decide_eq_false c1r)
      obtain rfl : i = xs.length := by omega
      refine Cfg.setO (O' := ([(rs, .cells #[.string ByteArray.empty] 52 (0, 0)), (o, .cells #[.string s] 52 (0, 0))] ++ (bl 84 5 b (flat eight xs) B ++ []))) (congrArg (fun (xq : List UInt8) => (([(rs, .cells #[.string ByteArray.empty] 52 (0, 0)), (o, .cells #[.string s] 52 (0, 0))] ++ (bl 84 5 b xq B ++ [])) : List (Nat × Obj))) (by rw [List.take_length])) ?_
      rw [List.take_length] at hB
      refine Conv.cfg (Γ' := [(9, [], .int .i64 (xs.length : Int)), (8, [], .slice la xs.length cap), (5, [], .pointer (some ⟨b, 0, none⟩)), (4, [], .pointer (some ⟨rs, 0, none⟩)), (2, [], .pointer (some ⟨o, 0, none⟩))]) (Conv.mk (by kernel_rfl)) ?_
      refine Cfg.begA rfl (by kernel_rfl) [(o, .cells #[.string s] 52 (0, 0))] ?_
      refine CfgA.pure [0] [(0, false, some (.agg #[.string s]))] none (l' := #[true, false, false, false, false]) (by kernel_rfl) (by kernel_rfl) (.cons _ (.cons_cons _ (List.Sublist.trans (List.Sublist.refl _) (List.sublist_append_right _ _)))) 4 rfl (Γ' := [(18, [], .agg #[.string s]), (9, [], .int .i64 (xs.length : Int)), (8, [], .slice la xs.length cap), (5, [], .pointer (some ⟨b, 0, none⟩)), (4, [], .pointer (some ⟨rs, 0, none⟩)), (2, [], .pointer (some ⟨o, 0, none⟩))]) (nd := (fun S => [(∀ w1, S w1 → (loadVar 52 ⟨o, 0, none⟩).run Try.prog w1 = .ok (.agg #[.string s]) w1)])) (fun _ => by kernel_rfl) ⟨(fun w1 h => h.oload 0 rfl Try.underlying52 rfl (n := 1) (by kernel_rfl) rfl), trivial⟩ ?_
      refine CfgA.eff 1 (o := _) rfl (by kernel_rfl) (fuel' := 3) rfl (by kernel_rfl) (by kernel_rfl) (Eff.callH (vs := [.pointer (some ⟨b, 0, none⟩)]) (fun _ : Unit => (.string (tx (flat eight xs)) : Value)) (bl 84 5 b (flat eight xs) B) (fun _ => []) (fun _ => True) [(rs, .cells #[.string ByteArray.empty] 52 (0, 0)), (o, .cells #[.string s] 52 (0, 0))] [] (by rfl) rfl Try.func47 rfl rfl (by kernel_rfl) (fun w1 h hh hd => bString b (flat eight xs) B w1 hB hh hd (by omega))) (fun _ _ => (.cons _ (.cons_cons _ .slnil))) ?_
      rintro ⟨⟩ -
      refine CfgA.eff 2 (o := _) rfl (by kernel_rfl) (fuel' := 2) rfl (by kernel_rfl) (by kernel_rfl) (Eff.buildSlice (e := 9) (cells := #[.string (tx (flat eight xs))]) (parts := #[(0, .string (tx (flat eight xs)))]) rfl (by kernel_rfl) (fun _ => by kernel_rfl)) (fun _ _ => (.cons _ (.cons _ (.cons_cons _ .slnil)))) ?_
      rintro x3 ⟨hx3, nx3⟩
      refine CfgA.eff 3 (o := _) rfl (by kernel_rfl) (fuel' := 1) rfl (by kernel_rfl) (by kernel_rfl) (Eff.callA (vs := [.agg #[.string s], .slice (some ⟨x3, 0, none⟩) 1 1]) (.agg #[.string (tx (s.data.toList ++ cat [(tx (flat eight xs))]))]) rfl Try.func46 rfl rfl (by kernel_rfl) (fun w1 h => wWith s (some ⟨x3, 0, none⟩) 1 [(tx (flat eight xs))] [(x3, .cells (List.map Value.string [(tx (flat eight xs))]).toArray 9 (0, 0))] w1 (inS_lit x3 9 (0, 0) [(tx (flat eight xs))]) (h.has (fun e he => List.mem_of_getElem? (i := 0) (by rw [List.mem_singleton.1 he]; rfl))) (one_len _) (by rw [cat_tx]; omega))) (fun _ _ => (.cons _ (.cons _ (.cons_cons _ .slnil)))) ?_
      rintro ⟨⟩ -
      refine CfgA.eff 4 (o := _) rfl (by kernel_rfl) (fuel' := 0) rfl (by kernel_rfl) (by kernel_rfl) (Eff.storeN (b := rs) (off := 0) (vs := #[.string (tx (s.data.toList ++ cat [(tx (flat eight xs))]))]) (n := 1) rfl (by kernel_rfl) (by kernel_rfl) (by kernel_rfl) rfl (by simp [one]) 1 (cs := #[.string ByteArray.empty]) (e := 52) (by kernel_rfl) (by simp)) (fun _ _ => (.cons _ (.cons _ (.cons_cons _ .slnil)))) ?_
      rintro ⟨⟩ -
      refine CfgA.setO (O' := [(x3, .cells #[.string (tx (flat eight xs))] 9 (0, 0)), (rs, .cells #[.string (tx (s.data.toList ++ cat [(tx (flat eight xs))]))] 52 (0, 0)), (o, .cells #[.string s] 52 (0, 0))]) (congrArg (fun (xq : Array Value) => ([(x3, .cells #[.string (tx (flat eight xs))] 9 (0, 0)), (rs, .cells xq 52 (0, 0)), (o, .cells #[.string s] 52 (0, 0))] : List (Nat × Obj))) (rfl)) ?_
      refine CfgA.done (by kernel_rfl) ?_
      refine Conv.cfg (Γ' := [(4, [], .pointer (some ⟨rs, 0, none⟩))]) (Conv.mk (by kernel_rfl)) ?_
      refine Cfg.ret rfl (rs := [.cell 4 52]) rfl [.agg #[.string (tx (s.data.toList ++ cat [(tx (flat eight xs))]))]] ⟨⟨_, by kernel_rfl, (fun w1 h => h.oload 1 rfl Try.underlying52 rfl (n := 1) (by kernel_rfl) rfl)⟩, trivial⟩ (fun w1 hp => ?_)
      exact ⟨by rw [cat_tx]; rfl, hp.ext⟩

set_option maxRecDepth 100000 in
theorem wText (s : ByteArray) (la : Option Addr) (cap : Nat) (xs : List ByteArray) (Rl : List (Nat × Obj)) (w : World) (hI : InS Rl la xs.length (fun j => .string (xs.getD j ByteArray.empty))) (hR : Has w Rl) (hn : xs.length ≤ maxLen) (hr : s.size + (flat text4 xs).length ≤ 140737488355328) :
    Calls Try.prog 16 #[.agg #[.string s], .slice la xs.length cap] w fun e w' => e = .returned (.agg #[.string (tx (s.data.toList ++ flat text4 xs))]) ∧ Ext [] w w' := by
  unfold maxLen at hn
  refine enter (vs := [.agg #[.string s], .slice la xs.length cap]) [] Rl [] Try.func16 rfl (by kernel_rfl) (HP.ofHas hR) ?_
  refine Cfg.begL rfl ?_
  refine CfgL.eff (o := _) rfl (by kernel_rfl) (by kernel_rfl) (Eff.box (v := .agg #[.string s]) rfl (by kernel_rfl)) ?_
  rintro o ⟨ho, no⟩
  refine CfgL.eff (o := _) rfl (by kernel_rfl) (by kernel_rfl) (Eff.alloc (z := (.agg #[.string ByteArray.empty])) rfl (by kernel_rfl)) ?_
  rintro rs ⟨hrs, nrs⟩
  refine CfgL.done rfl ?_
  refine Conv.cfg (Γ' := [(4, [], .pointer (some ⟨rs, 0, none⟩)), (2, [], .pointer (some ⟨o, 0, none⟩)), (1, [], .slice la xs.length cap)]) (Conv.mk (by kernel_rfl)) ?_
  refine Cfg.begL rfl ?_
  refine CfgL.eff (o := _) rfl (by kernel_rfl) (by kernel_rfl) (Eff.allocB 5 [(rs, .cells #[.string ByteArray.empty] 52 (0, 0)), (o, .cells #[.string s] 52 (0, 0))] [] rfl rfl (by kernel_rfl)) ?_
  rintro b ⟨hb, nb⟩
  refine CfgL.done rfl ?_
  refine Cfg.reg rfl [2, 4, 5, 8, 9, 10] [] (Γ' := [(10, [], .int .i64 0), (9, [], .int .i64 (xs.length : Int)), (8, [], .slice la xs.length cap), (5, [], .pointer (some ⟨b, 0, none⟩)), (4, [], .pointer (some ⟨rs, 0, none⟩)), (2, [], .pointer (some ⟨o, 0, none⟩))]) (nd := (fun _ => [])) (fun _ => by kernel_rfl) trivial ?_
  refine Cfg.setO (O' := ([(rs, .cells #[.string ByteArray.empty] 52 (0, 0)), (o, .cells #[.string s] 52 (0, 0))] ++ (bl 84 5 b (flat text4 (xs.take 0)) bd0 ++ []))) (congrArg (fun (xq : List UInt8) => (([(rs, .cells #[.string ByteArray.empty] 52 (0, 0)), (o, .cells #[.string s] 52 (0, 0))] ++ (bl 84 5 b xq bd0 ++ [])) : List (Nat × Obj))) (by rw [List.take_zero]; rfl)) ?_
  refine Cfg.loop rfl (ι := Nat × Bd) (fun (xz : Nat × Bd) => match xz with | (i, B) => [(10, [], .int .i64 (i : Int)), (9, [], .int .i64 (xs.length : Int)), (8, [], .slice la xs.length cap), (5, [], .pointer (some ⟨b, 0, none⟩)), (4, [], .pointer (some ⟨rs, 0, none⟩)), (2, [], .pointer (some ⟨o, 0, none⟩))]) (fun (xz : Nat × Bd) => match xz with | (i, B) => ([(rs, .cells #[.string ByteArray.empty] 52 (0, 0)), (o, .cells #[.string s] 52 (0, 0))] ++ (bl 84 5 b (flat text4 (xs.take i)) B ++ []))) (fun (xz : Nat × Bd) => match xz with | (i, B) => (i ≤ xs.length) ∧ (BdOk b (flat text4 (xs.take i)) B)) (fun (xz : Nat × Bd) => match xz with | (i, B) => xs.length - i) (0, bd0) ?_ (Conv.mk (by kernel_rfl)) (List.Sublist.refl _) ?_
  · exact ⟨Nat.zero_le _, by rw [List.take_zero]; exact (bd0_ok b)⟩
  · rintro ⟨i, B⟩ ⟨hi, hB⟩
    have hpart := fun (hlt : i < xs.length) => flat_part (f := text4) ByteArray.empty hlt
    refine Cfg.reg rfl [2, 4, 5, 8, 9, 10, 11] [] (Γ' := [(11, [], .bool (decide ((i : Int) < (xs.length : Int)))), (10, [], .int .i64 (i : Int)), (9, [], .int .i64 (xs.length : Int)), (8, [], .slice la xs.length cap), (5, [], .pointer (some ⟨b, 0, none⟩)), (4, [], .pointer (some ⟨rs, 0, none⟩)), (2, [], .pointer (some ⟨o, 0, none⟩))]) (nd := (fun _ => [])) (fun _ => by kernel_rfl) trivial ?_
    refine Cfg.cond rfl (b := (decide ((i : Int) < (xs.length : Int)))) (by kernel_rfl) (fun c1r => ?_) (fun c1r => ?_)
    · have c1 : ((i : Int) < (xs.length : Int)) := (of_decide_eq_true c1r)
      have hpt := hpart (by omega)
      have ht4 : (text4 (xs.getD i ByteArray.empty)).length = 4 + (xs.getD i ByteArray.empty).size := by unfold text4; rw [List.length_append, be_len, ba_len]
      obtain ⟨sb, off, cs, te, fre, rfl, hmem, hcs⟩ := hI (by omega)
      refine Conv.cfg (Γ' := [(11, [], .bool (decide ((i : Int) < (xs.length : Int)))), (10, [], .int .i64 (i : Int)), (9, [], .int .i64 (xs.length : Int)), (8, [], .slice (some ⟨sb, off, none⟩) xs.length cap), (5, [], .pointer (some ⟨b, 0, none⟩)), (4, [], .pointer (some ⟨rs, 0, none⟩)), (2, [], .pointer (some ⟨o, 0, none⟩))]) (Conv.mk (by kernel_rfl)) ?_
      refine Cfg.reg rfl [2, 4, 5, 7, 8, 9, 10] [(0, false, none), (0, false, some (.string (xs.getD i ByteArray.empty)))] (Γ' := [(7, [], .string (xs.getD i ByteArray.empty)), (10, [], .int .i64 (i : Int)), (9, [], .int .i64 (xs.length : Int)), (8, [], .slice (some ⟨sb, off, none⟩) xs.length cap), (5, [], .pointer (some ⟨b, 0, none⟩)), (4, [], .pointer (some ⟨rs, 0, none⟩)), (2, [], .pointer (some ⟨o, 0, none⟩))]) (nd := (fun S => [(0 ≤ (i : Int) ∧ (i : Int) < (xs.length : Int)), (∀ w1, S w1 → w1.cell? ⟨sb, (addO off i), none⟩ = some (.string (xs.getD i ByteArray.empty)))])) (fun _ => by kernel_rfl) ⟨(by omega), (fun w1 h => by rw [addO_eq]; exact (cell_cells (h.ro _ hmem)).trans (hcs i (by omega))), trivial⟩ ?_
      refine Cfg.begL rfl ?_
      refine CfgL.pure 3 [] none (Γ' := [(16, [], .int .u64 (((xs.getD i ByteArray.empty).size : Int) % 18446744073709551616)), (15, [], .int .i64 ((xs.getD i ByteArray.empty).size : Int)), (14, [], .string (xs.getD i ByteArray.empty)), (7, [], .string (xs.getD i ByteArray.empty)), (10, [], .int .i64 (i : Int)), (9, [], .int .i64 (xs.length : Int)), (8, [], .slice (some ⟨sb, off, none⟩) xs.length cap), (5, [], .pointer (some ⟨b, 0, none⟩)), (4, [], .pointer (some ⟨rs, 0, none⟩)), (2, [], .pointer (some ⟨o, 0, none⟩))]) (nd := (fun _ => [])) (by kernel_rfl) (fun _ => by kernel_rfl) trivial ?_
      refine CfgL.eff (o := _) rfl (by kernel_rfl) (by kernel_rfl) (Eff.callA (vs := [.int .u64 (((xs.getD i ByteArray.empty).size : Int) % 18446744073709551616), .int .i64 4]) (.string (beS (xs.getD i ByteArray.empty).size 4)) rfl Try.func45 rfl rfl (by kernel_rfl) (fun w1 _ => wNumMod _ (by omega) w1)) ?_
      rintro ⟨⟩ -
      refine CfgL.eff (o := _) rfl (by kernel_rfl) (by kernel_rfl) (Eff.callH (vs := [.pointer (some ⟨b, 0, none⟩), .string (beS (xs.getD i ByteArray.empty).size 4)]) (fun _ => (.tuple #[.int .i64 ((beS (xs.getD i ByteArray.empty).size 4).size : Int), .nilIface] : Value)) (bl 84 5 b (flat text4 (xs.take i)) B) (fun B1 => bl 84 5 b ((flat text4 (xs.take i)) ++ (beS (xs.getD i ByteArray.empty).size 4).data.toList) B1) (fun B1 => BdOk b ((flat text4 (xs.take i)) ++ (beS (xs.getD i ByteArray.empty).size 4).data.toList) B1) [(rs, .cells #[.string ByteArray.empty] 52 (0, 0)), (o, .cells #[.string s] 52 (0, 0))] [] (by rfl) rfl Try.func44 rfl rfl (by kernel_rfl) (fun w1 h hh hd => bWriteString b (flat text4 (xs.take i)) B (beS (xs.getD i ByteArray.empty).size 4) w1 hB hh hd (by rw [beS_size]; omega))) ?_
      rintro B2 kB2
      refine CfgL.done rfl ?_
      refine Conv.cfg (Γ' := [(7, [], .string (xs.getD i ByteArray.empty)), (10, [], .int .i64 (i : Int)), (9, [], .int .i64 (xs.length : Int)), (8, [], .slice (some ⟨sb, off, none⟩) xs.length cap), (5, [], .pointer (some ⟨b, 0, none⟩)), (4, [], .pointer (some ⟨rs, 0, none⟩)), (2, [], .pointer (some ⟨o, 0, none⟩))]) (Conv.mk (by kernel_rfl)) ?_
      refine Cfg.begL rfl ?_
      refine CfgL.pure 1 [] none (Γ' := [(19, [], .string (xs.getD i ByteArray.empty)), (7, [], .string (xs.getD i ByteArray.empty)), (10, [], .int .i64 (i : Int)), (9, [], .int .i64 (xs.length : Int)), (8, [], .slice (some ⟨sb, off, none⟩) xs.length cap), (5, [], .pointer (some ⟨b, 0, none⟩)), (4, [], .pointer (some ⟨rs, 0, none⟩)), (2, [], .pointer (some ⟨o, 0, none⟩))]) (nd := (fun _ => [])) (by kernel_rfl) (fun _ => by kernel_rfl) trivial ?_
      refine CfgL.eff (o := _) rfl (by kernel_rfl) (by kernel_rfl) (Eff.callH (vs := [.pointer (some ⟨b, 0, none⟩), .string (xs.getD i ByteArray.empty)]) (fun _ => (.tuple #[.int .i64 ((xs.getD i ByteArray.empty).size : Int), .nilIface] : Value)) (bl 84 5 b ((flat text4 (xs.take i)) ++ (beS (xs.getD i ByteArray.empty).size 4).data.toList) B2) (fun B1 => bl 84 5 b (((flat text4 (xs.take i)) ++ (beS (xs.getD i ByteArray.empty).size 4).data.toList) ++ (xs.getD i ByteArray.empty).data.toList) B1) (fun B1 => BdOk b (((flat text4 (xs.take i)) ++ (beS (xs.getD i ByteArray.empty).size 4).data.toList) ++ (xs.getD i ByteArray.empty).data.toList) B1) [(rs, .cells #[.string ByteArray.empty] 52 (0, 0)), (o, .cells #[.string s] 52 (0, 0))] [] (by rfl) rfl Try.func44 rfl rfl (by kernel_rfl) (fun w1 h hh hd => bWriteString b ((flat text4 (xs.take i)) ++ (beS (xs.getD i ByteArray.empty).size 4).data.toList) B2 (xs.getD i ByteArray.empty) w1 kB2 hh hd (by rw [List.length_append, beS_list, be_len]; omega))) ?_
      rintro B3 kB3
      refine CfgL.done rfl ?_
      refine Conv.cfg (Γ' := [(10, [], .int .i64 (i : Int)), (9, [], .int .i64 (xs.length : Int)), (8, [], .slice (some ⟨sb, off, none⟩) xs.length cap), (5, [], .pointer (some ⟨b, 0, none⟩)), (4, [], .pointer (some ⟨rs, 0, none⟩)), (2, [], .pointer (some ⟨o, 0, none⟩))]) (Conv.mk (by kernel_rfl)) ?_
      refine Cfg.reg rfl [2, 4, 5, 8, 9, 10] [] (Γ' := [(10, [], .int .i64 ((i : Int) + 1)), (9, [], .int .i64 (xs.length : Int)), (8, [], .slice (some ⟨sb, off, none⟩) xs.length cap), (5, [], .pointer (some ⟨b, 0, none⟩)), (4, [], .pointer (some ⟨rs, 0, none⟩)), (2, [], .pointer (some ⟨o, 0, none⟩))]) (nd := (fun _ => [((-9223372036854775808 : Int) ≤ ((i : Int) + 1) ∧ ((i : Int) + 1) ≤ 9223372036854775807)])) (fun _ => by kernel_rfl) ⟨(by omega), trivial⟩ ?_
      have hcs2 : (((flat text4 (xs.take i)) ++ (beS (xs.getD i ByteArray.empty).size 4).data.toList) ++ (xs.getD i ByteArray.empty).data.toList) = (flat text4 (xs.take (i + 1))) := by rw [flat_succ ByteArray.empty (by omega)]; unfold text4; rw [← List.append_assoc, beS_list]
      refine Cfg.setO (O' := ([(rs, .cells #[.string ByteArray.empty] 52 (0, 0)), (o, .cells #[.string s] 52 (0, 0))] ++ (bl 84 5 b (flat text4 (xs.take (i + 1))) B3 ++ []))) (congrArg (fun (xq : List UInt8) => (([(rs, .cells #[.string ByteArray.empty] 52 (0, 0)), (o, .cells #[.string s] 52 (0, 0))] ++ (bl 84 5 b xq B3 ++ [])) : List (Nat × Obj))) (hcs2)) ?_
      refine Cfg.again rfl (i + 1, B3) ⟨by omega, hcs2 ▸ kB3⟩ (by show xs.length - (i + 1) < xs.length - i; omega) (Conv.mk (by kernel_rfl)) (.cons_cons _ (.cons_cons _ (List.Sublist.refl _)))
    · have c1 : (¬ ((i : Int) < (xs.length : Int))) := (of_decide_eq_false c1r)
      obtain rfl : i = xs.length := by omega
      refine Cfg.setO (O' := ([(rs, .cells #[.string ByteArray.empty] 52 (0, 0)), (o, .cells #[.string s] 52 (0, 0))] ++ (bl 84 5 b (flat text4 xs) B ++ []))) (congrArg (fun (xq : List UInt8) => (([(rs, .cells #[.string ByteArray.empty] 52 (0, 0)), (o, .cells #[.string s] 52 (0, 0))] ++ (bl 84 5 b xq B ++ [])) : List (Nat × Obj))) (by rw [List.take_length])) ?_
      rw [List.take_length] at hB
      refine Conv.cfg (Γ' := [(9, [], .int .i64 (xs.length : Int)), (8, [], .slice la xs.length cap), (5, [], .pointer (some ⟨b, 0, none⟩)), (4, [], .pointer (some ⟨rs, 0, none⟩)), (2, [], .pointer (some ⟨o, 0, none⟩))]) (Conv.mk (by kernel_rfl)) ?_
      refine Cfg.begA rfl (by kernel_rfl) [(o, .cells #[.string s] 52 (0, 0))] ?_
      refine CfgA.pure [0] [(0, false, some (.agg #[.string s]))] none (l' := #[true, false, false, false, false]) (by kernel_rfl) (by kernel_rfl) (.cons _ (.cons_cons _ (List.Sublist.trans (List.Sublist.refl _) (List.sublist_append_right _ _)))) 4 rfl (Γ' := [(22, [], .agg #[.string s]), (9, [], .int .i64 (xs.length : Int)), (8, [], .slice la xs.length cap), (5, [], .pointer (some ⟨b, 0, none⟩)), (4, [], .pointer (some ⟨rs, 0, none⟩)), (2, [], .pointer (some ⟨o, 0, none⟩))]) (nd := (fun S => [(∀ w1, S w1 → (loadVar 52 ⟨o, 0, none⟩).run Try.prog w1 = .ok (.agg #[.string s]) w1)])) (fun _ => by kernel_rfl) ⟨(fun w1 h => h.oload 0 rfl Try.underlying52 rfl (n := 1) (by kernel_rfl) rfl), trivial⟩ ?_
      refine CfgA.eff 1 (o := _) rfl (by kernel_rfl) (fuel' := 3) rfl (by kernel_rfl) (by kernel_rfl) (Eff.callH (vs := [.pointer (some ⟨b, 0, none⟩)]) (fun _ : Unit => (.string (tx (flat text4 xs)) : Value)) (bl 84 5 b (flat text4 xs) B) (fun _ => []) (fun _ => True) [(rs, .cells #[.string ByteArray.empty] 52 (0, 0)), (o, .cells #[.string s] 52 (0, 0))] [] (by rfl) rfl Try.func47 rfl rfl (by kernel_rfl) (fun w1 h hh hd => bString b (flat text4 xs) B w1 hB hh hd (by omega))) (fun _ _ => (.cons _ (.cons_cons _ .slnil))) ?_
      rintro ⟨⟩ -
      refine CfgA.eff 2 (o := _) rfl (by kernel_rfl) (fuel' := 2) rfl (by kernel_rfl) (by kernel_rfl) (Eff.buildSlice (e := 9) (cells := #[.string (tx (flat text4 xs))]) (parts := #[(0, .string (tx (flat text4 xs)))]) rfl (by kernel_rfl) (fun _ => by kernel_rfl)) (fun _ _ => (.cons _ (.cons _ (.cons_cons _ .slnil)))) ?_
      rintro x3 ⟨hx3, nx3⟩
      refine CfgA.eff 3 (o := _) rfl (by kernel_rfl) (fuel' := 1) rfl (by kernel_rfl) (by kernel_rfl) (Eff.callA (vs := [.agg #[.string s], .slice (some ⟨x3, 0, none⟩) 1 1]) (.agg #[.string (tx (s.data.toList ++ cat [(tx (flat text4 xs))]))]) rfl Try.func46 rfl rfl (by kernel_rfl) (fun w1 h => wWith s (some ⟨x3, 0, none⟩) 1 [(tx (flat text4 xs))] [(x3, .cells (List.map Value.string [(tx (flat text4 xs))]).toArray 9 (0, 0))] w1 (inS_lit x3 9 (0, 0) [(tx (flat text4 xs))]) (h.has (fun e he => List.mem_of_getElem? (i := 0) (by rw [List.mem_singleton.1 he]; rfl))) (one_len _) (by rw [cat_tx]; omega))) (fun _ _ => (.cons _ (.cons _ (.cons_cons _ .slnil)))) ?_
      rintro ⟨⟩ -
      refine CfgA.eff 4 (o := _) rfl (by kernel_rfl) (fuel' := 0) rfl (by kernel_rfl) (by kernel_rfl) (Eff.storeN (b := rs) (off := 0) (vs := #[.string (tx (s.data.toList ++ cat [(tx (flat text4 xs))]))]) (n := 1) rfl (by kernel_rfl) (by kernel_rfl) (by kernel_rfl) rfl (by simp [one]) 1 (cs := #[.string ByteArray.empty]) (e := 52) (by kernel_rfl) (by simp)) (fun _ _ => (.cons _ (.cons _ (.cons_cons _ .slnil)))) ?_
      rintro ⟨⟩ -
      refine CfgA.setO (O' := [(x3, .cells #[.string (tx (flat text4 xs))] 9 (0, 0)), (rs, .cells #[.string (tx (s.data.toList ++ cat [(tx (flat text4 xs))]))] 52 (0, 0)), (o, .cells #[.string s] 52 (0, 0))]) (congrArg (fun (xq : Array Value) => ([(x3, .cells #[.string (tx (flat text4 xs))] 9 (0, 0)), (rs, .cells xq 52 (0, 0)), (o, .cells #[.string s] 52 (0, 0))] : List (Nat × Obj))) (rfl)) ?_
      refine CfgA.done (by kernel_rfl) ?_
      refine Conv.cfg (Γ' := [(4, [], .pointer (some ⟨rs, 0, none⟩))]) (Conv.mk (by kernel_rfl)) ?_
      refine Cfg.ret rfl (rs := [.cell 4 52]) rfl [.agg #[.string (tx (s.data.toList ++ cat [(tx (flat text4 xs))]))]] ⟨⟨_, by kernel_rfl, (fun w1 h => h.oload 1 rfl Try.underlying52 rfl (n := 1) (by kernel_rfl) rfl)⟩, trivial⟩ (fun w1 hp => ?_)
      exact ⟨by rw [cat_tx]; rfl, hp.ext⟩

set_option maxRecDepth 100000 in
theorem wDigest (s : ByteArray) (la : Option Addr) (cap : Nat) (xs : List (List UInt8)) (Rl : List (Nat × Obj)) (w : World) (hI : InS Rl la (xs.length * 32) (fun j => .int .u8 (((xs.getD (j / 32) []).getD (j % 32) 0).toNat : Int))) (hR : Has w Rl) (hn : xs.length ≤ maxLen) (hr : s.size + (flat id xs).length ≤ 140737488355328) (hx : ∀ i, i < xs.length → (xs.getD i []).length = 32) :
    Calls Try.prog 49 #[.agg #[.string s], .slice la xs.length cap] w fun e w' => e = .returned (.agg #[.string (tx (s.data.toList ++ flat id xs))]) ∧ Ext [] w w' := by
  unfold maxLen at hn
  refine enter (vs := [.agg #[.string s], .slice la xs.length cap]) [] Rl [] Try.func49 rfl (by kernel_rfl) (HP.ofHas hR) ?_
  refine Cfg.begL rfl ?_
  refine CfgL.eff (o := _) rfl (by kernel_rfl) (by kernel_rfl) (Eff.box (v := .agg #[.string s]) rfl (by kernel_rfl)) ?_
  rintro o ⟨ho, no⟩
  refine CfgL.eff (o := _) rfl (by kernel_rfl) (by kernel_rfl) (Eff.alloc (z := (.agg #[.string ByteArray.empty])) rfl (by kernel_rfl)) ?_
  rintro rs ⟨hrs, nrs⟩
  refine CfgL.done rfl ?_
  refine Conv.cfg (Γ' := [(4, [], .pointer (some ⟨rs, 0, none⟩)), (2, [], .pointer (some ⟨o, 0, none⟩)), (1, [], .slice la xs.length cap)]) (Conv.mk (by kernel_rfl)) ?_
  refine Cfg.begL rfl ?_
  refine CfgL.eff (o := _) rfl (by kernel_rfl) (by kernel_rfl) (Eff.allocB 5 [(rs, .cells #[.string ByteArray.empty] 52 (0, 0)), (o, .cells #[.string s] 52 (0, 0))] [] rfl rfl (by kernel_rfl)) ?_
  rintro b ⟨hb, nb⟩
  refine CfgL.done rfl ?_
  refine Cfg.reg rfl [2, 4, 5, 8, 9, 10] [] (Γ' := [(10, [], .int .i64 0), (9, [], .int .i64 (xs.length : Int)), (8, [], .slice la xs.length cap), (5, [], .pointer (some ⟨b, 0, none⟩)), (4, [], .pointer (some ⟨rs, 0, none⟩)), (2, [], .pointer (some ⟨o, 0, none⟩))]) (nd := (fun _ => [])) (fun _ => by kernel_rfl) trivial ?_
  refine Cfg.setO (O' := ([(rs, .cells #[.string ByteArray.empty] 52 (0, 0)), (o, .cells #[.string s] 52 (0, 0))] ++ (bl 84 5 b (flat id (xs.take 0)) bd0 ++ []))) (congrArg (fun (xq : List UInt8) => (([(rs, .cells #[.string ByteArray.empty] 52 (0, 0)), (o, .cells #[.string s] 52 (0, 0))] ++ (bl 84 5 b xq bd0 ++ [])) : List (Nat × Obj))) (by rw [List.take_zero]; rfl)) ?_
  refine Cfg.loop rfl (ι := Nat × Bd) (fun (xz : Nat × Bd) => match xz with | (i, B) => [(10, [], .int .i64 (i : Int)), (9, [], .int .i64 (xs.length : Int)), (8, [], .slice la xs.length cap), (5, [], .pointer (some ⟨b, 0, none⟩)), (4, [], .pointer (some ⟨rs, 0, none⟩)), (2, [], .pointer (some ⟨o, 0, none⟩))]) (fun (xz : Nat × Bd) => match xz with | (i, B) => ([(rs, .cells #[.string ByteArray.empty] 52 (0, 0)), (o, .cells #[.string s] 52 (0, 0))] ++ (bl 84 5 b (flat id (xs.take i)) B ++ []))) (fun (xz : Nat × Bd) => match xz with | (i, B) => (i ≤ xs.length) ∧ (BdOk b (flat id (xs.take i)) B)) (fun (xz : Nat × Bd) => match xz with | (i, B) => xs.length - i) (0, bd0) ?_ (Conv.mk (by kernel_rfl)) (List.Sublist.refl _) ?_
  · exact ⟨Nat.zero_le _, by rw [List.take_zero]; exact (bd0_ok b)⟩
  · rintro ⟨i, B⟩ ⟨hi, hB⟩
    have hpart := fun (hlt : i < xs.length) => flat_part (f := id) [] hlt
    refine Cfg.reg rfl [2, 4, 5, 8, 9, 10, 11] [] (Γ' := [(11, [], .bool (decide ((i : Int) < (xs.length : Int)))), (10, [], .int .i64 (i : Int)), (9, [], .int .i64 (xs.length : Int)), (8, [], .slice la xs.length cap), (5, [], .pointer (some ⟨b, 0, none⟩)), (4, [], .pointer (some ⟨rs, 0, none⟩)), (2, [], .pointer (some ⟨o, 0, none⟩))]) (nd := (fun _ => [])) (fun _ => by kernel_rfl) trivial ?_
    refine Cfg.cond rfl (b := (decide ((i : Int) < (xs.length : Int)))) (by kernel_rfl) (fun c1r => ?_) (fun c1r => ?_)
    · have c1 : ((i : Int) < (xs.length : Int)) := (of_decide_eq_true c1r)
      have hpt := hpart (by omega)
      obtain ⟨sb, off, cs, te, fre, rfl, hmem, hcs⟩ := hI (by omega)
      refine Conv.cfg (Γ' := [(11, [], .bool (decide ((i : Int) < (xs.length : Int)))), (10, [], .int .i64 (i : Int)), (9, [], .int .i64 (xs.length : Int)), (8, [], .slice (some ⟨sb, off, none⟩) xs.length cap), (5, [], .pointer (some ⟨b, 0, none⟩)), (4, [], .pointer (some ⟨rs, 0, none⟩)), (2, [], .pointer (some ⟨o, 0, none⟩))]) (Conv.mk (by kernel_rfl)) ?_
      refine Cfg.begL rfl ?_
      refine CfgL.pure 2 [(0, false, none), (0, false, some (.agg (bv (xs.getD i []))))] none (Γ' := [(13, [], .agg (bv (xs.getD i []))), (12, [], .pointer (some ⟨sb, (addO off (i * 32)), none⟩)), (11, [], .bool (decide ((i : Int) < (xs.length : Int)))), (10, [], .int .i64 (i : Int)), (9, [], .int .i64 (xs.length : Int)), (8, [], .slice (some ⟨sb, off, none⟩) xs.length cap), (5, [], .pointer (some ⟨b, 0, none⟩)), (4, [], .pointer (some ⟨rs, 0, none⟩)), (2, [], .pointer (some ⟨o, 0, none⟩))]) (nd := (fun S => [(0 ≤ (i : Int) ∧ (i : Int) < (xs.length : Int)), (∀ w1, S w1 → (loadVar 45 ⟨sb, (addO off (i * 32)), none⟩).run Try.prog w1 = .ok (.agg (bv (xs.getD i []))) w1)])) (by kernel_rfl) (fun _ => by kernel_rfl) ⟨(by omega), (fun w1 h => load_bytes Try.underlying45 rfl (by kernel_rfl) (hx i (by omega)) (fun j hj => by rw [addO_eq]; exact (cell_cells (h.ro _ hmem)).trans ((congrArg (fun z => cs[z]?) (show off + i * 32 + j = off + (i * 32 + j) by omega)).trans ((hcs (i * 32 + j) (by omega)).trans (by simp only [show (i * 32 + j) / 32 = i by omega, show (i * 32 + j) % 32 = j by omega]))))), trivial⟩ ?_
      refine CfgL.eff (o := _) rfl (by kernel_rfl) (by kernel_rfl) (Eff.alloc (z := (.agg (bv (List.replicate 32 0)))) rfl (by kernel_rfl)) ?_
      rintro d ⟨hd, nd⟩
      refine CfgL.eff (o := _) rfl (by kernel_rfl) (by kernel_rfl) (Eff.storeN (b := d) (off := 0) (vs := (bv (xs.getD i []))) (n := 32) rfl (by kernel_rfl) (by kernel_rfl) (by kernel_rfl) ((bv_size _).trans (hx i (by omega))) (all_bv _) 0 (cs := (bv (List.replicate 32 0))) (e := 45) (by kernel_rfl) (by rw [zsz32]; omega)) ?_
      rintro ⟨⟩ -
      refine CfgL.setO (O' := ([(d, .cells (bv (xs.getD i [])) 45 (0, 0)), (rs, .cells #[.string ByteArray.empty] 52 (0, 0)), (o, .cells #[.string s] 52 (0, 0))] ++ (bl 84 5 b (flat id (xs.take i)) B ++ []))) (congrArg (fun (xq : Array Value) => (([(d, .cells xq 45 (0, 0)), (rs, .cells #[.string ByteArray.empty] 52 (0, 0)), (o, .cells #[.string s] 52 (0, 0))] ++ (bl 84 5 b (flat id (xs.take i)) B ++ [])) : List (Nat × Obj))) (spl_all (((bv_size _).trans (hx i (by omega))).trans zsz32.symm))) ?_
      refine CfgL.done rfl ?_
      refine Conv.cfg (Γ' := [(7, [], .pointer (some ⟨d, 0, none⟩)), (10, [], .int .i64 (i : Int)), (9, [], .int .i64 (xs.length : Int)), (8, [], .slice (some ⟨sb, off, none⟩) xs.length cap), (5, [], .pointer (some ⟨b, 0, none⟩)), (4, [], .pointer (some ⟨rs, 0, none⟩)), (2, [], .pointer (some ⟨o, 0, none⟩))]) (Conv.mk (by kernel_rfl)) ?_
      refine Cfg.begL rfl ?_
      refine CfgL.pure 1 [] none (Γ' := [(14, [], .slice (some ⟨d, 0, none⟩) 32 32), (7, [], .pointer (some ⟨d, 0, none⟩)), (10, [], .int .i64 (i : Int)), (9, [], .int .i64 (xs.length : Int)), (8, [], .slice (some ⟨sb, off, none⟩) xs.length cap), (5, [], .pointer (some ⟨b, 0, none⟩)), (4, [], .pointer (some ⟨rs, 0, none⟩)), (2, [], .pointer (some ⟨o, 0, none⟩))]) (nd := (fun _ => [(32 ≤ 32)])) (by kernel_rfl) (fun _ => by kernel_rfl) ⟨(by omega), trivial⟩ ?_
      refine CfgL.eff (o := _) rfl (by kernel_rfl) (by kernel_rfl) (Eff.callH (vs := [.pointer (some ⟨b, 0, none⟩), .slice (some ⟨d, 0, none⟩) 32 32]) (fun _ => (.tuple #[.int .i64 32, .nilIface] : Value)) (bl 84 5 b (flat id (xs.take i)) B) (fun B1 => bl 84 5 b ((flat id (xs.take i)) ++ (xs.getD i [])) B1) (fun B1 => BdOk b ((flat id (xs.take i)) ++ (xs.getD i [])) B1) [(d, .cells (bv (xs.getD i [])) 45 (0, 0)), (rs, .cells #[.string ByteArray.empty] 52 (0, 0)), (o, .cells #[.string s] 52 (0, 0))] [] (by rfl) rfl Try.func70 rfl rfl (by kernel_rfl) (fun w1 h hh hd => bWrite b (flat id (xs.take i)) B d 32 32 (xs.getD i []) 45 w1 hB hh hd (by have h32 := hx i (by omega); have hid : (id (xs.getD i []) : List UInt8).length = 32 := h32; omega) (by decide) (hx i (by omega)) (h.own (d, _) (List.mem_of_getElem? (i := 0) rfl)) (HP.notin h (List.mem_of_getElem? (i := 0) rfl)))) ?_
      rintro B1 kB1
      refine CfgL.done rfl ?_
      refine Conv.cfg (Γ' := [(10, [], .int .i64 (i : Int)), (9, [], .int .i64 (xs.length : Int)), (8, [], .slice (some ⟨sb, off, none⟩) xs.length cap), (5, [], .pointer (some ⟨b, 0, none⟩)), (4, [], .pointer (some ⟨rs, 0, none⟩)), (2, [], .pointer (some ⟨o, 0, none⟩))]) (Conv.mk (by kernel_rfl)) ?_
      refine Cfg.reg rfl [2, 4, 5, 8, 9, 10] [] (Γ' := [(10, [], .int .i64 ((i : Int) + 1)), (9, [], .int .i64 (xs.length : Int)), (8, [], .slice (some ⟨sb, off, none⟩) xs.length cap), (5, [], .pointer (some ⟨b, 0, none⟩)), (4, [], .pointer (some ⟨rs, 0, none⟩)), (2, [], .pointer (some ⟨o, 0, none⟩))]) (nd := (fun _ => [((-9223372036854775808 : Int) ≤ ((i : Int) + 1) ∧ ((i : Int) + 1) ≤ 9223372036854775807)])) (fun _ => by kernel_rfl) ⟨(by omega), trivial⟩ ?_
      have hcs2 : ((flat id (xs.take i)) ++ (xs.getD i [])) = (flat id (xs.take (i + 1))) := by rw [flat_succ [] (by omega)]; rfl
      refine Cfg.setO (O' := ([(d, .cells (bv (xs.getD i [])) 45 (0, 0)), (rs, .cells #[.string ByteArray.empty] 52 (0, 0)), (o, .cells #[.string s] 52 (0, 0))] ++ (bl 84 5 b (flat id (xs.take (i + 1))) B1 ++ []))) (congrArg (fun (xq : List UInt8) => (([(d, .cells (bv (xs.getD i [])) 45 (0, 0)), (rs, .cells #[.string ByteArray.empty] 52 (0, 0)), (o, .cells #[.string s] 52 (0, 0))] ++ (bl 84 5 b xq B1 ++ [])) : List (Nat × Obj))) (hcs2)) ?_
      refine Cfg.again rfl (i + 1, B1) ⟨by omega, hcs2 ▸ kB1⟩ (by show xs.length - (i + 1) < xs.length - i; omega) (Conv.mk (by kernel_rfl)) (.cons _ (.cons_cons _ (.cons_cons _ (List.Sublist.refl _))))
    · have c1 : (¬ ((i : Int) < (xs.length : Int))) := (of_decide_eq_false c1r)
      obtain rfl : i = xs.length := by omega
      refine Cfg.setO (O' := ([(rs, .cells #[.string ByteArray.empty] 52 (0, 0)), (o, .cells #[.string s] 52 (0, 0))] ++ (bl 84 5 b (flat id xs) B ++ []))) (congrArg (fun (xq : List UInt8) => (([(rs, .cells #[.string ByteArray.empty] 52 (0, 0)), (o, .cells #[.string s] 52 (0, 0))] ++ (bl 84 5 b xq B ++ [])) : List (Nat × Obj))) (by rw [List.take_length])) ?_
      rw [List.take_length] at hB
      refine Conv.cfg (Γ' := [(9, [], .int .i64 (xs.length : Int)), (8, [], .slice la xs.length cap), (5, [], .pointer (some ⟨b, 0, none⟩)), (4, [], .pointer (some ⟨rs, 0, none⟩)), (2, [], .pointer (some ⟨o, 0, none⟩))]) (Conv.mk (by kernel_rfl)) ?_
      refine Cfg.begA rfl (by kernel_rfl) [(o, .cells #[.string s] 52 (0, 0))] ?_
      refine CfgA.pure [0] [(0, false, some (.agg #[.string s]))] none (l' := #[true, false, false, false, false]) (by kernel_rfl) (by kernel_rfl) (.cons _ (.cons_cons _ (List.Sublist.trans (List.Sublist.refl _) (List.sublist_append_right _ _)))) 4 rfl (Γ' := [(17, [], .agg #[.string s]), (9, [], .int .i64 (xs.length : Int)), (8, [], .slice la xs.length cap), (5, [], .pointer (some ⟨b, 0, none⟩)), (4, [], .pointer (some ⟨rs, 0, none⟩)), (2, [], .pointer (some ⟨o, 0, none⟩))]) (nd := (fun S => [(∀ w1, S w1 → (loadVar 52 ⟨o, 0, none⟩).run Try.prog w1 = .ok (.agg #[.string s]) w1)])) (fun _ => by kernel_rfl) ⟨(fun w1 h => h.oload 0 rfl Try.underlying52 rfl (n := 1) (by kernel_rfl) rfl), trivial⟩ ?_
      refine CfgA.eff 1 (o := _) rfl (by kernel_rfl) (fuel' := 3) rfl (by kernel_rfl) (by kernel_rfl) (Eff.callH (vs := [.pointer (some ⟨b, 0, none⟩)]) (fun _ : Unit => (.string (tx (flat id xs)) : Value)) (bl 84 5 b (flat id xs) B) (fun _ => []) (fun _ => True) [(rs, .cells #[.string ByteArray.empty] 52 (0, 0)), (o, .cells #[.string s] 52 (0, 0))] [] (by rfl) rfl Try.func47 rfl rfl (by kernel_rfl) (fun w1 h hh hd => bString b (flat id xs) B w1 hB hh hd (by omega))) (fun _ _ => (.cons _ (.cons_cons _ .slnil))) ?_
      rintro ⟨⟩ -
      refine CfgA.eff 2 (o := _) rfl (by kernel_rfl) (fuel' := 2) rfl (by kernel_rfl) (by kernel_rfl) (Eff.buildSlice (e := 9) (cells := #[.string (tx (flat id xs))]) (parts := #[(0, .string (tx (flat id xs)))]) rfl (by kernel_rfl) (fun _ => by kernel_rfl)) (fun _ _ => (.cons _ (.cons _ (.cons_cons _ .slnil)))) ?_
      rintro x4 ⟨hx4, nx4⟩
      refine CfgA.eff 3 (o := _) rfl (by kernel_rfl) (fuel' := 1) rfl (by kernel_rfl) (by kernel_rfl) (Eff.callA (vs := [.agg #[.string s], .slice (some ⟨x4, 0, none⟩) 1 1]) (.agg #[.string (tx (s.data.toList ++ cat [(tx (flat id xs))]))]) rfl Try.func46 rfl rfl (by kernel_rfl) (fun w1 h => wWith s (some ⟨x4, 0, none⟩) 1 [(tx (flat id xs))] [(x4, .cells (List.map Value.string [(tx (flat id xs))]).toArray 9 (0, 0))] w1 (inS_lit x4 9 (0, 0) [(tx (flat id xs))]) (h.has (fun e he => List.mem_of_getElem? (i := 0) (by rw [List.mem_singleton.1 he]; rfl))) (one_len _) (by rw [cat_tx]; omega))) (fun _ _ => (.cons _ (.cons _ (.cons_cons _ .slnil)))) ?_
      rintro ⟨⟩ -
      refine CfgA.eff 4 (o := _) rfl (by kernel_rfl) (fuel' := 0) rfl (by kernel_rfl) (by kernel_rfl) (Eff.storeN (b := rs) (off := 0) (vs := #[.string (tx (s.data.toList ++ cat [(tx (flat id xs))]))]) (n := 1) rfl (by kernel_rfl) (by kernel_rfl) (by kernel_rfl) rfl (by simp [one]) 1 (cs := #[.string ByteArray.empty]) (e := 52) (by kernel_rfl) (by simp)) (fun _ _ => (.cons _ (.cons _ (.cons_cons _ .slnil)))) ?_
      rintro ⟨⟩ -
      refine CfgA.setO (O' := [(x4, .cells #[.string (tx (flat id xs))] 9 (0, 0)), (rs, .cells #[.string (tx (s.data.toList ++ cat [(tx (flat id xs))]))] 52 (0, 0)), (o, .cells #[.string s] 52 (0, 0))]) (congrArg (fun (xq : Array Value) => ([(x4, .cells #[.string (tx (flat id xs))] 9 (0, 0)), (rs, .cells xq 52 (0, 0)), (o, .cells #[.string s] 52 (0, 0))] : List (Nat × Obj))) (rfl)) ?_
      refine CfgA.done (by kernel_rfl) ?_
      refine Conv.cfg (Γ' := [(4, [], .pointer (some ⟨rs, 0, none⟩))]) (Conv.mk (by kernel_rfl)) ?_
      refine Cfg.ret rfl (rs := [.cell 4 52]) rfl [.agg #[.string (tx (s.data.toList ++ cat [(tx (flat id xs))]))]] ⟨⟨_, by kernel_rfl, (fun w1 h => h.oload 1 rfl Try.underlying52 rfl (n := 1) (by kernel_rfl) rfl)⟩, trivial⟩ (fun w1 hp => ?_)
      exact ⟨by rw [cat_tx]; rfl, hp.ext⟩

set_option maxRecDepth 100000 in
theorem wString (s : ByteArray) (w : World) :
    Calls Try.prog 20 #[.agg #[.string s]] w fun e w' => e = .returned (.string s) ∧ Ext [] w w' := by
  refine enter (vs := [.agg #[.string s]]) [] [] [] Try.func20 rfl (by kernel_rfl) (HP.start w) ?_
  refine Cfg.begL rfl ?_
  refine CfgL.eff (o := _) rfl (by kernel_rfl) (by kernel_rfl) (Eff.box (v := .agg #[.string s]) rfl (by kernel_rfl)) ?_
  rintro o ⟨ho, no⟩
  refine CfgL.pure 1 [] (some [1]) (Γ' := [(1, [], .pointer (some ⟨o, 0, none⟩))]) (nd := (fun _ => [])) (by kernel_rfl) (fun _ => by kernel_rfl) trivial ?_
  refine CfgL.done rfl ?_
  refine Cfg.reg rfl [2] [(0, false, none), (0, false, some (.string s))] (Γ' := [(2, [], .string s)]) (nd := (fun S => [(∀ w1, S w1 → w1.cell? ⟨o, 0, none⟩ = some (.string s))])) (fun _ => by kernel_rfl) ⟨(fun w1 h => h.ocell 0 rfl rfl), trivial⟩ ?_
  refine Cfg.ret rfl (rs := [.tmp 2]) rfl [.string s] ⟨by kernel_rfl, trivial⟩ (fun w1 hp => ?_)
  exact ⟨rfl, hp.ext⟩

end Go.Proofs.Ytejgpniaoccpoaa
