/- script: the program's step of a line. -/
import Derived.Test.YtoopekjbikcebaaDoorScH
import Derived.Test.YtoopekjbikcebaaDoorScE
import Derived.Test.YtoopekjbikcebaaDoorK20
namespace Go.Proofs.YtoopekjbikcebaaDoor
open K
set_option linter.unusedVariables false

/-- What the program takes of a line. -/
def stepV (l : List UInt8) : Stp × Bool := match oneR l with
  | none => (sz0, false)
  | some s => (s, true)
theorem stepV_none {l : List UInt8} (h : oneP l = none) : stepV l = (sz0, false) := by unfold stepV; rw [← one_same, h]
theorem stepV_some {l : List UInt8} {s : Stp} (h : oneP l = some s) : stepV l = (s, true) := by unfold stepV; rw [← one_same, h]
theorem want_3 {k : Int} (h : k = 3) : wantN k = 5 := if_pos h
theorem want_n {k : Int} (h : k ≠ 3) : wantN k = 1 := if_neg h
def wq (k : Nat) : List UInt8 := if k = 0 then [] else wdK (k : Int)
theorem words_q {k : Nat} (h : k < 5) : wordsV[k]? = some (.string (tx (wq k))) := by
  have : k = 0 ∨ k = 1 ∨ k = 2 ∨ k = 3 ∨ k = 4 := by omega
  rcases this with rfl | rfl | rfl | rfl | rfl <;> rfl
/-- The kind found among the first k words. -/
def kc (kd : Int) (k : Nat) : Int := if kd < (k : Int) then kd else 0
theorem kc_hit {w : List UInt8} {k : Nat} (hk : 0 < k ∧ k < 5) (h : wq k = w) : kc (kindW w) (k + 1) = (k : Int) := by
  have h1 : wdK (k : Int) = w := by unfold wq at h; rwa [if_neg (by omega)] at h
  have h2 : kindW w = (k : Int) := by rw [← h1]; exact kind_wd (by omega) (by omega)
  unfold kc; rw [h2, if_pos (by omega)]
theorem kind_ge (w : List UInt8) : 0 ≤ kindW w ∧ kindW w ≤ 4 := by
  by_cases h : kindW w = 0
  · omega
  · have := (wd_kind h).2; omega
theorem kc_miss {w : List UInt8} {k : Nat} (h : k = 0 ∨ wq k ≠ w) : kc (kindW w) (k + 1) = kc (kindW w) k := by
  have h0 := kind_ge w
  have h1 : kindW w ≠ (k : Int) ∨ kindW w = 0 := by
    by_cases hz : kindW w = 0
    · exact .inr hz
    · refine .inl (fun hx => ?_)
      rcases h with h | h
      · omega
      · refine h ?_
        unfold wq
        rw [if_neg (by omega), ← hx]; exact (wd_kind hz).1.symm
  unfold kc
  by_cases h2 : kindW w < (k : Int)
  · rw [if_pos h2, if_pos (by omega)]
  · rw [if_neg h2]
    by_cases h3 : kindW w < ((k + 1 : Nat) : Int)
    · rw [if_pos h3]; omega
    · rw [if_neg h3]
theorem kc_end (w : List UInt8) : kc (kindW w) 5 = kindW w := by have := kind_ge w; unfold kc; rw [if_pos (by omega)]
theorem kc_start (w : List UInt8) : kc (kindW w) 0 = 0 := by have := kind_ge w; unfold kc; rw [if_neg (by omega)]
theorem strs_at {l : List (List UInt8)} {i : Nat} (h : i < l.length) : (strs l).toArray[i]? = some (.string (tx (l.getD i []))) := by
  simp [strs, List.getElem?_eq_getElem h]
theorem allN_take : ∀ {l : List (List UInt8)} {i : Nat} {vals : List Nat} {n : Nat}, i < l.length → allN (l.take i) = some vals → numP (l.getD i []) = some n → allN (l.take (i + 1)) = some (vals ++ [n])
  | [], i, vals, n, h, _, _ => absurd h (Nat.not_lt_zero _)
  | p :: l, 0, vals, n, _, h1, h2 => by
    have h3 : vals = [] := by simpa [allN] using h1.symm
    subst h3
    show ((numP p).bind fun n => (allN (l.take 0)).map (n :: ·)) = _
    rw [show numP p = some n from h2, List.take_zero]; rfl
  | p :: l, i + 1, vals, n, h, h1, h2 => by
    have h3 : ((numP p).bind fun n => (allN (l.take i)).map (n :: ·)) = some vals := h1
    cases hp : numP p with
    | none => rw [hp] at h3; cases h3
    | some m =>
      rw [hp] at h3
      obtain ⟨v2, h4, h5⟩ := Option.map_eq_some_iff.1 (show (allN (l.take i)).map (m :: ·) = some vals from h3)
      have ih := allN_take (l := l) (i := i) (by simpa using h) h4 (by simpa using h2)
      show ((numP p).bind fun n => (allN (l.take (i + 1))).map (n :: ·)) = _
      rw [hp]
      show (allN (l.take (i + 1))).map (m :: ·) = _
      rw [ih, ← h5]; rfl
theorem allN_no : ∀ {l : List (List UInt8)} {i : Nat}, i < l.length → numP (l.getD i []) = none → allN l = none
  | [], i, h, _ => absurd h (Nat.not_lt_zero _)
  | p :: l, 0, _, h2 => by
    show ((numP p).bind fun n => (allN l).map (n :: ·)) = _
    rw [show numP p = none from h2]; rfl
  | p :: l, i + 1, h, h2 => by
    have ih := allN_no (l := l) (i := i) (by simpa using h) (by simpa using h2)
    show ((numP p).bind fun n => (allN l).map (n :: ·)) = _
    rw [ih]; cases numP p <;> rfl
def n5 (vals : List Nat) : Array Value := nums (vals ++ List.replicate (5 - vals.length) 0)
def gN (vals : List Nat) (j : Nat) : Nat := (vals ++ List.replicate (5 - vals.length) 0).getD j 0
theorem n5_at {vals : List Nat} (h : vals.length ≤ 5) {j : Nat} (hj : j < 5) : (n5 vals)[j]? = some (.int .u32 (gN vals j : Int)) := by
  have hl : (vals ++ List.replicate (5 - vals.length) 0).length = 5 := by rw [List.length_append, List.length_replicate]; omega
  unfold n5 gN nums
  simp only [List.getElem?_toArray, List.getElem?_map]
  rw [List.getD_eq_getElem?_getD, List.getElem?_eq_getElem (by omega)]; rfl
theorem n5_size {vals : List Nat} (h : vals.length ≤ 5) : (n5 vals).size = 5 := by
  unfold n5 nums
  simp; omega
theorem n5_set {vals : List Nat} (h : vals.length < 5) (n : Nat) : (n5 vals).setIfInBounds vals.length (.int .u32 (n : Int)) = n5 (vals ++ [n]) := by
  unfold n5 nums
  rw [List.setIfInBounds_toArray]
  congr 1
  obtain ⟨m, hm⟩ : ∃ m, 5 - vals.length = m + 1 := ⟨5 - vals.length - 1, by omega⟩
  rw [hm, List.replicate_succ, List.map_append, List.map_cons, List.set_append_right _ _ (by rw [List.length_map]; exact Nat.le_refl _), List.length_map, Nat.sub_self, List.set_cons_zero, List.length_append]
  rw [show 5 - (vals.length + [n].length) = m by simp only [List.length_cons, List.length_nil]; omega, List.map_append, List.map_append, List.append_assoc]; rfl
theorem mk_cells {kd : Int} {vals : List Nat} (h : vals.length = 1 ∨ vals.length = 5) : stL (mkS kd vals) = [.int .i64 kd, .int .u32 (gN vals 0 : Int), .int .u32 (gN vals 1 : Int), .int .u32 (gN vals 2 : Int), .int .u32 (gN vals 3 : Int), .int .u32 (gN vals 4 : Int)] := by
  match vals, h with
  | [a], _ => rfl
  | [a, b, c, d, e], _ => rfl
  | [], h => simp at h
  | [a, b], h => simp at h
  | [a, b, c], h => simp at h
  | [a, b, c, d], h => simp at h
  | _ :: _ :: _ :: _ :: _ :: _ :: _, h => simp at h
theorem parts_hd (l : List UInt8) : ∃ tl, parts l = l.takeWhile notB :: tl := ⟨_, rfl⟩
theorem oneP_bad {l : List UInt8} {tl : List (List UInt8)} (hp : parts l = l.takeWhile notB :: tl) (h : kindW (l.takeWhile notB) = 0 ∨ tl.length ≠ wantN (kindW (l.takeWhile notB))) : oneP l = none := by
  unfold oneP
  rw [if_pos]
  rcases h with h | h
  · exact .inl h
  · refine .inr ?_
    rw [hp, List.length_cons]; omega
theorem oneP_all {l : List UInt8} {tl : List (List UInt8)} (hp : parts l = l.takeWhile notB :: tl) (h : ¬ (kindW (l.takeWhile notB) = 0 ∨ tl.length ≠ wantN (kindW (l.takeWhile notB)))) : oneP l = (allN tl).map (mkS (kindW (l.takeWhile notB))) := by
  unfold oneP
  rw [if_neg, hp, List.tail_cons]
  rintro (h1 | h1)
  · exact h (.inl h1)
  · rw [hp, List.length_cons] at h1
    exact h (.inr (by omega))
theorem parts_le (l : List UInt8) : (parts l).length ≤ l.length + 1 := by
  have := List.count_le_length (a := (32 : UInt8)) (l := l)
  rw [parts_split, splitA_len]; omega
theorem mem_le {l : List UInt8} : ∀ {cur : List UInt8} {p : List UInt8}, p ∈ splitA cur l → p.length ≤ cur.length + l.length := by
  induction l with
  | nil => intro cur p hp; rw [List.mem_singleton.1 (show p ∈ [cur] from hp)]; simp
  | cons c r ih =>
    intro cur p hp
    have hp2 : p ∈ (if c = 32 then cur :: splitA [] r else splitA (cur ++ [c]) r) := hp
    by_cases hc : c = 32
    · rw [if_pos hc] at hp2
      rcases List.mem_cons.1 hp2 with rfl | h
      · omega
      · have := ih h; simp only [List.length_nil, List.length_cons] at this ⊢; omega
    · rw [if_neg hc] at hp2
      have := ih hp2; simp only [List.length_append, List.length_cons, List.length_nil] at this ⊢; omega
theorem part_le (l : List UInt8) (i : Nat) : ((parts l).getD i []).length ≤ l.length := by
  rw [List.getD_eq_getElem?_getD]
  by_cases hi : i < (parts l).length
  · rw [List.getElem?_eq_getElem hi]
    have h1 : (parts l)[i] ∈ splitA [] l := by rw [← parts_split]; exact List.getElem_mem hi
    have := mem_le h1; simpa using this
  · rw [List.getElem?_eq_none (by omega)]; exact Nat.zero_le _

theorem numV_no {l : List UInt8} (h : (numV l).2 = false) : numP l = none := by
  unfold numV at h
  cases hn : numP l with
  | none => rfl
  | some n => rw [hn] at h; cases h
theorem numV_yes {l : List UInt8} (h : (numV l).2 = true) : numP l = some (numV l).1 := by
  unfold numV at h ⊢
  cases hn : numP l with
  | none => rw [hn] at h; cases h
  | some n => rfl
set_option maxRecDepth 100000 in
set_option maxHeartbeats 1000000 in
theorem sStep (t : ByteArray) (w : World) (hn : t.size ≤ 50000) :
    Calls Tryd.prog 20 #[.string t] w fun e w' => e = .returned (.tuple #[.agg (stL (stepV t.data.toList).1).toArray, .bool (stepV t.data.toList).2]) ∧ Ext [] w w' := by
  have hlen := ba_len t
  obtain ⟨tl, htl⟩ := parts_hd t.data.toList
  obtain ⟨w0, hw0⟩ : ∃ x, x = t.data.toList.takeWhile notB := ⟨_, rfl⟩
  rw [← hw0] at htl
  obtain ⟨ps, hps⟩ : ∃ x, x = w0 :: tl := ⟨_, rfl⟩
  rw [← hps] at htl
  obtain ⟨kd, hkd⟩ : ∃ k, k = kindW w0 := ⟨_, rfl⟩
  have hk4 := kind_ge w0
  rw [← hkd] at hk4
  have hpl := parts_le t.data.toList
  rw [htl] at hpl
  have hp1 : ps.length = tl.length + 1 := by rw [hps]; rfl
  have hpp : ∀ i, (ps.getD i []).length ≤ t.size := fun i => by rw [← htl, ← hlen]; exact part_le _ i
  refine enter (vs := [.string t]) [] [] [] Tryd.func20 rfl (by kernel_rfl) (HP.start w) ?_
  refine Cfg.begL rfl ?_
  refine CfgL.eff (o := _) rfl (by kernel_rfl) (by kernel_rfl) (Eff.alloc (z := (.agg (stL sz0).toArray)) rfl (by kernel_rfl)) ?_
  rintro rs ⟨hrs, nrs⟩
  refine CfgL.pure 1 [] (some [0, 2]) (Γ' := [(2, [], .pointer (some ⟨rs, 0, none⟩)), (0, [], .string t)]) (nd := (fun _ => [])) (by kernel_rfl) (fun _ => by kernel_rfl) trivial ?_
  refine CfgL.done rfl ?_
  refine Cfg.begL rfl ?_
  refine CfgL.pure 1 [] (some [2, 14]) (Γ' := [(14, [], .string t), (2, [], .pointer (some ⟨rs, 0, none⟩))]) (nd := (fun _ => [])) (by kernel_rfl) (fun _ => by kernel_rfl) trivial ?_
  refine CfgL.eff (o := _) rfl (by kernel_rfl) (by kernel_rfl) (Eff.callN (vs := [.string t, .string ⟨#[32]⟩]) (fun b : Nat => .slice (some ⟨b, 0, none⟩) ps.length ps.length) (fun b => b) (fun _ => .cells (strs ps).toArray 9 (0, 0)) (fun _ => True) rfl Tryd.func27 rfl rfl (by kernel_rfl) (fun w1 _ => by have h9 := sSplit t w1 (by omega); rw [htl] at h9; exact h9)) ?_
  rintro pb ⟨-, hpb, npb⟩
  refine CfgL.pure 1 [] (some [2, 4]) (Γ' := [(4, [], .slice (some ⟨pb, 0, none⟩) ps.length ps.length), (2, [], .pointer (some ⟨rs, 0, none⟩))]) (nd := (fun _ => [])) (by kernel_rfl) (fun _ => by kernel_rfl) trivial ?_
  refine CfgL.done rfl ?_
  refine Cfg.reg rfl [2, 4, 5] [] (Γ' := [(5, [], .int .i64 0), (4, [], .slice (some ⟨pb, 0, none⟩) ps.length ps.length), (2, [], .pointer (some ⟨rs, 0, none⟩))]) (nd := (fun _ => [])) (fun _ => by kernel_rfl) trivial ?_
  refine Cfg.begL rfl ?_
  refine CfgL.eff (o := _) rfl (by kernel_rfl) (by kernel_rfl) (Eff.callA (vs := []) (.agg wordsV) rfl Tryd.func11 rfl rfl (by kernel_rfl) (fun w1 _ => sWords w1)) ?_
  rintro ⟨⟩ -
  refine CfgL.pure 1 [] (some [2, 4, 5, 16, 17]) (Γ' := [(17, [], .int .i64 0), (16, [], .agg wordsV), (5, [], .int .i64 0), (4, [], .slice (some ⟨pb, 0, none⟩) ps.length ps.length), (2, [], .pointer (some ⟨rs, 0, none⟩))]) (nd := (fun _ => [])) (by kernel_rfl) (fun _ => by kernel_rfl) trivial ?_
  refine CfgL.done rfl ?_
  refine Cfg.setG (Γ' := [(17, [], .int .i64 0), (16, [], .agg wordsV), (5, [], .int .i64 (kc kd 0)), (4, [], .slice (some ⟨pb, 0, none⟩) ps.length ps.length), (2, [], .pointer (some ⟨rs, 0, none⟩))]) (congrArg (fun (xq : Int) => ([(17, [], .int .i64 0), (16, [], .agg wordsV), (5, [], .int .i64 xq), (4, [], .slice (some ⟨pb, 0, none⟩) ps.length ps.length), (2, [], .pointer (some ⟨rs, 0, none⟩))] : Env)) (by rw [hkd, kc_start])) ?_
  refine Cfg.loop rfl (ι := Nat) (fun (k : Nat) => [(17, [], .int .i64 (k : Int)), (16, [], .agg wordsV), (5, [], .int .i64 (kc kd k)), (4, [], .slice (some ⟨pb, 0, none⟩) ps.length ps.length), (2, [], .pointer (some ⟨rs, 0, none⟩))]) (fun (k : Nat) => [(pb, .cells ((strs ps).toArray) 9 (0, 0)), (rs, .cells ((stL sz0).toArray) 26 (0, 0))]) (fun (k : Nat) => (k ≤ 5)) (fun (k : Nat) => 5 - k) 0 ?_ (Conv.mk (by kernel_rfl)) (.cons_cons _ (.cons_cons _ .slnil)) ?_
  · exact Nat.zero_le _
  · rintro k hk
    refine Cfg.reg rfl [2, 4, 5, 16, 17, 18] [] (Γ' := [(18, [], .bool (decide ((k : Int) < (5 : Int)))), (17, [], .int .i64 (k : Int)), (16, [], .agg wordsV), (5, [], .int .i64 (kc kd k)), (4, [], .slice (some ⟨pb, 0, none⟩) ps.length ps.length), (2, [], .pointer (some ⟨rs, 0, none⟩))]) (nd := (fun _ => [])) (fun _ => by kernel_rfl) trivial ?_
    refine Cfg.cond rfl (b := (decide ((k : Int) < (5 : Int)))) (by kernel_rfl) (fun c1r => ?_) (fun c1r => ?_)
    · have c1 : ((k : Int) < (5 : Int)) := (of_decide_eq_true c1r)
      refine Cfg.reg rfl [2, 4, 5, 6, 7, 16, 17] [(0, false, none), (0, false, some (.string (tx (wq k))))] (Γ' := [(7, [], .string (tx (wq k))), (6, [], .int .i64 (k : Int)), (17, [], .int .i64 (k : Int)), (16, [], .agg wordsV), (5, [], .int .i64 (kc kd k)), (4, [], .slice (some ⟨pb, 0, none⟩) ps.length ps.length), (2, [], .pointer (some ⟨rs, 0, none⟩))]) (nd := (fun _ => [(0 ≤ (k : Int) ∧ (k : Int) < (5 : Int)), ((wordsV)[k]? = some (.string (tx (wq k))))])) (fun _ => by kernel_rfl) ⟨(by omega), (words_q (by omega)), trivial⟩ ?_
      refine Cfg.reg rfl [2, 4, 5, 6, 16, 17, 29] [(0, false, none), (0, false, none), (0, false, none), (0, false, none), (0, false, none), (0, false, none), (0, false, some (.string (tx w0)))] (Γ' := [(29, [], .bool ((decide ((k : Int) > (0 : Int))) && ((tx (wq k)).toList == (tx w0).toList))), (6, [], .int .i64 (k : Int)), (17, [], .int .i64 (k : Int)), (16, [], .agg wordsV), (5, [], .int .i64 (kc kd k)), (4, [], .slice (some ⟨pb, 0, none⟩) ps.length ps.length), (2, [], .pointer (some ⟨rs, 0, none⟩))]) (nd := (fun S => [((.bool (decide ((k : Int) > (0 : Int))) : Value) = .bool true → (0 ≤ (0 : Int) ∧ (0 : Int) < (ps.length : Int))), ((.bool (decide ((k : Int) > (0 : Int))) : Value) = .bool true → (∀ w1, S w1 → w1.cell? ⟨pb, 0, none⟩ = some (.string (tx w0))))])) (fun _ => by kernel_rfl) ⟨(fun g0 => have q0 : ((k : Int) > (0 : Int)) := (of_decide_eq_true (boolV g0)); (by omega)), (fun g0 => have q0 : ((k : Int) > (0 : Int)) := (of_decide_eq_true (boolV g0)); (fun w1 h => h.ocell 0 rfl (by have h9 := strs_at (l := ps) (i := 0) (by omega); rw [hps] at h9 ⊢; exact h9))), trivial⟩ ?_
      refine Cfg.cond rfl (b := ((decide ((k : Int) > (0 : Int))) && ((tx (wq k)).toList == (tx w0).toList))) (by kernel_rfl) (fun c2r => ?_) (fun c2r => ?_)
      · have c2 : (((k : Int) > (0 : Int)) ∧ (((tx (wq k)).toList == (tx w0).toList) = true)) := ⟨(of_decide_eq_true (andT1 c2r)), (andT2 c2r)⟩
        have hq : wq k = w0 := by have h9 := c2.2; rw [beq_tx] at h9; simpa using h9
        refine Cfg.reg rfl [2, 4, 5, 16, 17] [] (Γ' := [(5, [], .int .i64 (k : Int)), (17, [], .int .i64 (k : Int)), (16, [], .agg wordsV), (4, [], .slice (some ⟨pb, 0, none⟩) ps.length ps.length), (2, [], .pointer (some ⟨rs, 0, none⟩))]) (nd := (fun _ => [])) (fun _ => by kernel_rfl) trivial ?_
        refine Cfg.reg rfl [2, 4, 5, 16, 17] [] (Γ' := [(17, [], .int .i64 ((k : Int) + 1)), (5, [], .int .i64 (k : Int)), (16, [], .agg wordsV), (4, [], .slice (some ⟨pb, 0, none⟩) ps.length ps.length), (2, [], .pointer (some ⟨rs, 0, none⟩))]) (nd := (fun _ => [((-9223372036854775808 : Int) ≤ ((k : Int) + 1) ∧ ((k : Int) + 1) ≤ 9223372036854775807)])) (fun _ => by kernel_rfl) ⟨(by omega), trivial⟩ ?_
        refine Cfg.setG (Γ' := [(17, [], .int .i64 ((k : Int) + 1)), (5, [], .int .i64 (kc kd (k + 1))), (16, [], .agg wordsV), (4, [], .slice (some ⟨pb, 0, none⟩) ps.length ps.length), (2, [], .pointer (some ⟨rs, 0, none⟩))]) (congrArg (fun (xq : Int) => ([(17, [], .int .i64 ((k : Int) + 1)), (5, [], .int .i64 xq), (16, [], .agg wordsV), (4, [], .slice (some ⟨pb, 0, none⟩) ps.length ps.length), (2, [], .pointer (some ⟨rs, 0, none⟩))] : Env)) (by rw [hkd]; exact (kc_hit (by omega) hq).symm)) ?_
        refine Cfg.again rfl (k + 1) (show k + 1 ≤ 5 by omega) (by omega) (Conv.mk (by kernel_rfl)) (.cons_cons _ (.cons_cons _ .slnil))
      · have c2 : ((¬ ((k : Int) > (0 : Int))) ∨ (((tx (wq k)).toList == (tx w0).toList) = false)) := ((andF c2r).elim (fun h => Or.inl (of_decide_eq_false h)) (fun h => Or.inr h))
        have hq : k = 0 ∨ wq k ≠ w0 := by
          rcases c2 with h | h
          · exact .inl (by omega)
          · rw [beq_tx] at h; exact .inr (by simpa using h)
        refine Cfg.reg rfl [2, 4, 5, 16, 17] [] (Γ' := [(17, [], .int .i64 ((k : Int) + 1)), (16, [], .agg wordsV), (5, [], .int .i64 (kc kd k)), (4, [], .slice (some ⟨pb, 0, none⟩) ps.length ps.length), (2, [], .pointer (some ⟨rs, 0, none⟩))]) (nd := (fun _ => [((-9223372036854775808 : Int) ≤ ((k : Int) + 1) ∧ ((k : Int) + 1) ≤ 9223372036854775807)])) (fun _ => by kernel_rfl) ⟨(by omega), trivial⟩ ?_
        refine Cfg.setG (Γ' := [(17, [], .int .i64 ((k : Int) + 1)), (16, [], .agg wordsV), (5, [], .int .i64 (kc kd (k + 1))), (4, [], .slice (some ⟨pb, 0, none⟩) ps.length ps.length), (2, [], .pointer (some ⟨rs, 0, none⟩))]) (congrArg (fun (xq : Int) => ([(17, [], .int .i64 ((k : Int) + 1)), (16, [], .agg wordsV), (5, [], .int .i64 xq), (4, [], .slice (some ⟨pb, 0, none⟩) ps.length ps.length), (2, [], .pointer (some ⟨rs, 0, none⟩))] : Env)) (by rw [hkd]; exact (kc_miss hq).symm)) ?_
        refine Cfg.again rfl (k + 1) (show k + 1 ≤ 5 by omega) (by omega) (Conv.mk (by kernel_rfl)) (.cons_cons _ (.cons_cons _ .slnil))
    · have c1 : (¬ ((k : Int) < (5 : Int))) := (of_decide_eq_false c1r)
      have hk5 : k = 5 := by omega
      refine Cfg.setG (Γ' := [(18, [], .bool (decide ((k : Int) < (5 : Int)))), (17, [], .int .i64 (k : Int)), (16, [], .agg wordsV), (5, [], .int .i64 kd), (4, [], .slice (some ⟨pb, 0, none⟩) ps.length ps.length), (2, [], .pointer (some ⟨rs, 0, none⟩))]) (congrArg (fun (xq : Int) => ([(18, [], .bool (decide ((k : Int) < (5 : Int)))), (17, [], .int .i64 (k : Int)), (16, [], .agg wordsV), (5, [], .int .i64 xq), (4, [], .slice (some ⟨pb, 0, none⟩) ps.length ps.length), (2, [], .pointer (some ⟨rs, 0, none⟩))] : Env)) (by rw [hk5, hkd]; exact kc_end w0)) ?_
      refine Cfg.reg rfl [2, 4, 5, 8] [] (Γ' := [(8, [], .int .i64 2), (5, [], .int .i64 kd), (4, [], .slice (some ⟨pb, 0, none⟩) ps.length ps.length), (2, [], .pointer (some ⟨rs, 0, none⟩))]) (nd := (fun _ => [])) (fun _ => by kernel_rfl) trivial ?_
      refine Cfg.reg rfl [2, 4, 5, 8, 33] [] (Γ' := [(33, [], .bool (kd == (3 : Int))), (8, [], .int .i64 2), (5, [], .int .i64 kd), (4, [], .slice (some ⟨pb, 0, none⟩) ps.length ps.length), (2, [], .pointer (some ⟨rs, 0, none⟩))]) (nd := (fun _ => [])) (fun _ => by kernel_rfl) trivial ?_
      refine Cfg.cond rfl (b := (kd == (3 : Int))) (by kernel_rfl) (fun c3r => ?_) (fun c3r => ?_)
      · have c3 : (kd = (3 : Int)) := (beq_iff_eq.1 c3r)
        have hwn : wantN kd = 5 := want_3 c3
        refine Cfg.reg rfl [2, 4, 5, 8] [] (Γ' := [(8, [], .int .i64 6), (5, [], .int .i64 kd), (4, [], .slice (some ⟨pb, 0, none⟩) ps.length ps.length), (2, [], .pointer (some ⟨rs, 0, none⟩))]) (nd := (fun _ => [])) (fun _ => by kernel_rfl) trivial ?_
        refine Cfg.reg rfl [2, 4, 5, 41] [] (Γ' := [(41, [], .bool ((kd == (0 : Int)) || ((ps.length : Int) != (6 : Int)))), (5, [], .int .i64 kd), (4, [], .slice (some ⟨pb, 0, none⟩) ps.length ps.length), (2, [], .pointer (some ⟨rs, 0, none⟩))]) (nd := (fun _ => [])) (fun _ => by kernel_rfl) trivial ?_
        refine Cfg.cond rfl (b := ((kd == (0 : Int)) || ((ps.length : Int) != (6 : Int)))) (by kernel_rfl) (fun c4r => ?_) (fun c4r => ?_)
        · have c4 : ((kd = (0 : Int)) ∨ ((ps.length : Int) ≠ (6 : Int))) := ((orT c4r).elim (fun h => Or.inl (beq_iff_eq.1 h)) (fun h => Or.inr (bne_iff_ne.1 h)))
          have ho : oneP t.data.toList = none := oneP_bad (tl := tl) (by rw [htl, hps, hw0]) (by rw [← hw0, ← hkd, hwn]; omega)
          refine Cfg.begL rfl ?_
          refine CfgL.pure 1 [(0, false, some (.agg (stL sz0).toArray))] (some [2, 42]) (Γ' := [(42, [], .agg (stL sz0).toArray), (2, [], .pointer (some ⟨rs, 0, none⟩))]) (nd := (fun S => [(∀ w1, S w1 → (Instr.build 26 #[]).run Tryd.prog w1 = .ok (.agg (stL sz0).toArray) w1)])) (by kernel_rfl) (fun _ => by kernel_rfl) ⟨(fun _ _ => by kernel_rfl), trivial⟩ ?_
          refine CfgL.eff (o := _) rfl (by kernel_rfl) (by kernel_rfl) (Eff.storeN (b := rs) (off := 0) (vs := (stL sz0).toArray) (n := 6) rfl (by kernel_rfl) (by kernel_rfl) (by kernel_rfl) rfl (st_all _) 1 (cs := (stL sz0).toArray) (e := 26) (by kernel_rfl) (by decide)) ?_
          rintro ⟨⟩ -
          refine CfgL.setO (O' := [(pb, .cells ((strs ps).toArray) 9 (0, 0)), (rs, .cells ((stL sz0).toArray) 26 (0, 0))]) (congrArg (fun (xq : Array Value) => ([(pb, .cells ((strs ps).toArray) 9 (0, 0)), (rs, .cells xq 26 (0, 0))] : List (Nat × Obj))) ((spl_all (cs := (stL sz0).toArray) (vs := (stL sz0).toArray) rfl))) ?_
          refine CfgL.pure 1 [] (some [2, 3]) (Γ' := [(3, [], .bool false), (2, [], .pointer (some ⟨rs, 0, none⟩))]) (nd := (fun _ => [])) (by kernel_rfl) (fun _ => by kernel_rfl) trivial ?_
          refine CfgL.done rfl ?_
          refine Cfg.ret rfl (rs := [.cell 2 26, .tmp 3]) rfl [.agg (stL sz0).toArray, .bool false] ⟨⟨_, by kernel_rfl, (fun w1 h => h.oload 1 rfl Tryd.underlying26 rfl (n := 6) (by kernel_rfl) rfl)⟩, by kernel_rfl, trivial⟩ (fun w1 hp => ?_)
          exact ⟨by rw [stepV_none ho]; rfl, hp.ext⟩
        · have c4 : ((kd ≠ (0 : Int)) ∧ ((ps.length : Int) = (6 : Int))) := ⟨(beq_eq_false_iff_ne.1 (orF1 c4r)), (bne_eq_false_iff_eq.1 (orF2 c4r))⟩
          have ho : oneP t.data.toList = (allN tl).map (mkS kd) := by have h9 := oneP_all (l := t.data.toList) (tl := tl) (by rw [htl, hps, hw0]) (by rw [← hw0, ← hkd, hwn]; omega); rw [← hw0, ← hkd] at h9; exact h9
          refine Cfg.begL rfl ?_
          refine CfgL.eff (o := _) rfl (by kernel_rfl) (by kernel_rfl) (Eff.alloc (z := (.agg (n5 []))) rfl (by kernel_rfl)) ?_
          rintro na ⟨hna, nna⟩
          refine CfgL.done rfl ?_
          refine Conv.cfg (Γ' := [(9, [], .pointer (some ⟨na, 0, none⟩)), (5, [], .int .i64 kd), (4, [], .slice (some ⟨pb, 0, none⟩) ps.length ps.length), (2, [], .pointer (some ⟨rs, 0, none⟩))]) (Conv.mk (by kernel_rfl)) ?_
          refine Cfg.reg rfl [2, 5, 9, 44, 45, 46] [] (Γ' := [(46, [], .int .i64 0), (45, [], .int .i64 (((ps.length - 1) : Nat) : Int)), (44, [], .slice (some ⟨pb, (if ps.length = 1 then 0 else 1), none⟩) (ps.length - 1) (ps.length - 1)), (9, [], .pointer (some ⟨na, 0, none⟩)), (5, [], .int .i64 kd), (2, [], .pointer (some ⟨rs, 0, none⟩))]) (nd := (fun _ => [(0 ≤ (1 : Int)), (1 ≤ ps.length ∧ ps.length ≤ ps.length)])) (fun _ => by kernel_rfl) ⟨(by omega), (by omega), trivial⟩ ?_
          refine Cfg.setG (Γ' := [(46, [], .int .i64 0), (45, [], .int .i64 (((ps.length - 1) : Nat) : Int)), (44, [], .slice (some ⟨pb, 1, none⟩) tl.length tl.length), (9, [], .pointer (some ⟨na, 0, none⟩)), (5, [], .int .i64 kd), (2, [], .pointer (some ⟨rs, 0, none⟩))]) (congrArg (fun (xq : Value) => ([(46, [], .int .i64 0), (45, [], .int .i64 (((ps.length - 1) : Nat) : Int)), (44, [], xq), (9, [], .pointer (some ⟨na, 0, none⟩)), (5, [], .int .i64 kd), (2, [], .pointer (some ⟨rs, 0, none⟩))] : Env)) (by rw [if_neg (by omega), show ps.length - 1 = tl.length by omega])) ?_
          refine Cfg.setG (Γ' := [(46, [], .int .i64 0), (45, [], .int .i64 (tl.length : Int)), (44, [], .slice (some ⟨pb, 1, none⟩) tl.length tl.length), (9, [], .pointer (some ⟨na, 0, none⟩)), (5, [], .int .i64 kd), (2, [], .pointer (some ⟨rs, 0, none⟩))]) (congrArg (fun (xq : Int) => ([(46, [], .int .i64 0), (45, [], .int .i64 xq), (44, [], .slice (some ⟨pb, 1, none⟩) tl.length tl.length), (9, [], .pointer (some ⟨na, 0, none⟩)), (5, [], .int .i64 kd), (2, [], .pointer (some ⟨rs, 0, none⟩))] : Env)) (by omega)) ?_
          refine Cfg.loop rfl (ι := Nat × List Nat) (fun (xz : Nat × List Nat) => match xz with | (i, vals) => [(46, [], .int .i64 (i : Int)), (45, [], .int .i64 (tl.length : Int)), (44, [], .slice (some ⟨pb, 1, none⟩) tl.length tl.length), (9, [], .pointer (some ⟨na, 0, none⟩)), (5, [], .int .i64 kd), (2, [], .pointer (some ⟨rs, 0, none⟩))]) (fun (xz : Nat × List Nat) => match xz with | (i, vals) => [(na, .cells (n5 vals) 68 (0, 0)), (pb, .cells ((strs ps).toArray) 9 (0, 0)), (rs, .cells ((stL sz0).toArray) 26 (0, 0))]) (fun (xz : Nat × List Nat) => match xz with | (i, vals) => (i ≤ tl.length) ∧ (vals.length = i) ∧ (allN (tl.take i) = some vals)) (fun (xz : Nat × List Nat) => match xz with | (i, vals) => tl.length - i) (0, []) ?_ (Conv.mk (by kernel_rfl)) (List.Sublist.refl _) ?_
          · exact ⟨Nat.zero_le _, rfl, rfl⟩
          · rintro ⟨i, vals⟩ ⟨hi, hvl, hva⟩
            refine Cfg.reg rfl [2, 5, 9, 44, 45, 46, 47] [] (Γ' := [(47, [], .bool (decide ((i : Int) < (tl.length : Int)))), (46, [], .int .i64 (i : Int)), (45, [], .int .i64 (tl.length : Int)), (44, [], .slice (some ⟨pb, 1, none⟩) tl.length tl.length), (9, [], .pointer (some ⟨na, 0, none⟩)), (5, [], .int .i64 kd), (2, [], .pointer (some ⟨rs, 0, none⟩))]) (nd := (fun _ => [])) (fun _ => by kernel_rfl) trivial ?_
            refine Cfg.cond rfl (b := (decide ((i : Int) < (tl.length : Int)))) (by kernel_rfl) (fun c5r => ?_) (fun c5r => ?_)
            · have c5 : ((i : Int) < (tl.length : Int)) := (of_decide_eq_true c5r)
              refine Cfg.reg rfl [2, 5, 9, 10, 11, 44, 45, 46] [(0, false, none), (0, false, none), (0, false, some (.string (tx (ps.getD (i + 1) []))))] (Γ' := [(11, [], .string (tx (ps.getD (i + 1) []))), (10, [], .int .i64 (i : Int)), (46, [], .int .i64 (i : Int)), (45, [], .int .i64 (tl.length : Int)), (44, [], .slice (some ⟨pb, 1, none⟩) tl.length tl.length), (9, [], .pointer (some ⟨na, 0, none⟩)), (5, [], .int .i64 kd), (2, [], .pointer (some ⟨rs, 0, none⟩))]) (nd := (fun S => [(0 ≤ (i : Int) ∧ (i : Int) < (tl.length : Int)), (∀ w1, S w1 → w1.cell? ⟨pb, (addO 1 i), none⟩ = some (.string (tx (ps.getD (i + 1) []))))])) (fun _ => by kernel_rfl) ⟨(by omega), (fun w1 h => h.ocell 1 rfl (by rw [addO_eq, Nat.add_comm 1 i]; exact strs_at (by omega))), trivial⟩ ?_
              refine Cfg.begL rfl ?_
              refine CfgL.pure 1 [] (some [2, 5, 9, 10, 44, 45, 46, 52]) (Γ' := [(52, [], .string (tx (ps.getD (i + 1) []))), (10, [], .int .i64 (i : Int)), (46, [], .int .i64 (i : Int)), (45, [], .int .i64 (tl.length : Int)), (44, [], .slice (some ⟨pb, 1, none⟩) tl.length tl.length), (9, [], .pointer (some ⟨na, 0, none⟩)), (5, [], .int .i64 kd), (2, [], .pointer (some ⟨rs, 0, none⟩))]) (nd := (fun _ => [])) (by kernel_rfl) (fun _ => by kernel_rfl) trivial ?_
              refine CfgL.eff (o := _) rfl (by kernel_rfl) (by kernel_rfl) (Eff.callA (vs := [.string (tx (ps.getD (i + 1) []))]) (.tuple #[.int .u32 (((numV (ps.getD (i + 1) [])).1 : Nat) : Int), .bool (numV (ps.getD (i + 1) [])).2]) rfl Tryd.func28 rfl rfl (by kernel_rfl) (fun w1 _ => sNumber (tx (ps.getD (i + 1) [])) w1 (by rw [tx_size]; have := hpp (i + 1); unfold maxLen; omega))) ?_
              rintro ⟨⟩ -
              refine CfgL.pure 5 [] (some [2, 5, 9, 10, 12, 13, 44, 45, 46]) (Γ' := [(13, [], .bool (numV (ps.getD (i + 1) [])).2), (12, [], .int .u32 (((numV (ps.getD (i + 1) [])).1 : Nat) : Int)), (10, [], .int .i64 (i : Int)), (46, [], .int .i64 (i : Int)), (45, [], .int .i64 (tl.length : Int)), (44, [], .slice (some ⟨pb, 1, none⟩) tl.length tl.length), (9, [], .pointer (some ⟨na, 0, none⟩)), (5, [], .int .i64 kd), (2, [], .pointer (some ⟨rs, 0, none⟩))]) (nd := (fun _ => [])) (by kernel_rfl) (fun _ => by kernel_rfl) trivial ?_
              refine CfgL.done rfl ?_
              refine Cfg.reg rfl [2, 5, 9, 10, 12, 44, 45, 46, 57] [] (Γ' := [(57, [], .bool (!(numV (ps.getD (i + 1) [])).2)), (12, [], .int .u32 (((numV (ps.getD (i + 1) [])).1 : Nat) : Int)), (10, [], .int .i64 (i : Int)), (46, [], .int .i64 (i : Int)), (45, [], .int .i64 (tl.length : Int)), (44, [], .slice (some ⟨pb, 1, none⟩) tl.length tl.length), (9, [], .pointer (some ⟨na, 0, none⟩)), (5, [], .int .i64 kd), (2, [], .pointer (some ⟨rs, 0, none⟩))]) (nd := (fun _ => [])) (fun _ => by kernel_rfl) trivial ?_
              refine Cfg.cond rfl (b := (!(numV (ps.getD (i + 1) [])).2)) (by kernel_rfl) (fun c6r => ?_) (fun c6r => ?_)
              · have c6 : ((numV (ps.getD (i + 1) [])).2 = false) := (notT c6r)
                have hnq : ps.getD (i + 1) [] = tl.getD i [] := by rw [hps]; rfl
                have hnum : numP (tl.getD i []) = none := by rw [← hnq]; exact numV_no (by simpa using c6r)
                rw [allN_no (by omega) hnum] at ho
                refine Cfg.begL rfl ?_
                refine CfgL.pure 1 [(0, false, some (.agg (stL sz0).toArray))] (some [2, 58]) (Γ' := [(58, [], .agg (stL sz0).toArray), (2, [], .pointer (some ⟨rs, 0, none⟩))]) (nd := (fun S => [(∀ w1, S w1 → (Instr.build 26 #[]).run Tryd.prog w1 = .ok (.agg (stL sz0).toArray) w1)])) (by kernel_rfl) (fun _ => by kernel_rfl) ⟨(fun _ _ => by kernel_rfl), trivial⟩ ?_
                refine CfgL.eff (o := _) rfl (by kernel_rfl) (by kernel_rfl) (Eff.storeN (b := rs) (off := 0) (vs := (stL sz0).toArray) (n := 6) rfl (by kernel_rfl) (by kernel_rfl) (by kernel_rfl) rfl (st_all _) 2 (cs := (stL sz0).toArray) (e := 26) (by kernel_rfl) (by decide)) ?_
                rintro ⟨⟩ -
                refine CfgL.setO (O' := [(na, .cells (n5 vals) 68 (0, 0)), (pb, .cells ((strs ps).toArray) 9 (0, 0)), (rs, .cells ((stL sz0).toArray) 26 (0, 0))]) (congrArg (fun (xq : Array Value) => ([(na, .cells (n5 vals) 68 (0, 0)), (pb, .cells ((strs ps).toArray) 9 (0, 0)), (rs, .cells xq 26 (0, 0))] : List (Nat × Obj))) ((spl_all (cs := (stL sz0).toArray) (vs := (stL sz0).toArray) rfl))) ?_
                refine CfgL.pure 1 [] (some [2, 3]) (Γ' := [(3, [], .bool false), (2, [], .pointer (some ⟨rs, 0, none⟩))]) (nd := (fun _ => [])) (by kernel_rfl) (fun _ => by kernel_rfl) trivial ?_
                refine CfgL.done rfl ?_
                refine Cfg.ret rfl (rs := [.cell 2 26, .tmp 3]) rfl [.agg (stL sz0).toArray, .bool false] ⟨⟨_, by kernel_rfl, (fun w1 h => h.oload 2 rfl Tryd.underlying26 rfl (n := 6) (by kernel_rfl) rfl)⟩, by kernel_rfl, trivial⟩ (fun w1 hp => ?_)
                exact ⟨by rw [stepV_none ho]; rfl, hp.ext⟩
              · have c6 : ((numV (ps.getD (i + 1) [])).2 = true) := (notF c6r)
                have hnq : ps.getD (i + 1) [] = tl.getD i [] := by rw [hps]; rfl
                have hnum : numP (tl.getD i []) = some (numV (ps.getD (i + 1) [])).1 := by rw [← hnq]; exact numV_yes (by simpa using c6r)
                refine Cfg.begL rfl ?_
                refine CfgL.pure 3 [] (some [2, 5, 9, 44, 45, 46, 60, 61]) (Γ' := [(61, [], .pointer (some ⟨na, i, none⟩)), (60, [], .int .u32 (((numV (ps.getD (i + 1) [])).1 : Nat) : Int)), (46, [], .int .i64 (i : Int)), (45, [], .int .i64 (tl.length : Int)), (44, [], .slice (some ⟨pb, 1, none⟩) tl.length tl.length), (9, [], .pointer (some ⟨na, 0, none⟩)), (5, [], .int .i64 kd), (2, [], .pointer (some ⟨rs, 0, none⟩))]) (nd := (fun _ => [(0 ≤ (i : Int) ∧ (i : Int) < (5 : Int))])) (by kernel_rfl) (fun _ => by kernel_rfl) ⟨(by omega), trivial⟩ ?_
                refine CfgL.eff (o := _) rfl (by kernel_rfl) (by kernel_rfl) (Eff.store1 (b := na) (off := i) (v := .int .u32 (((numV (ps.getD (i + 1) [])).1 : Nat) : Int)) rfl (by kernel_rfl) (by kernel_rfl) rfl (by kernel_rfl) 0 (cs := (n5 vals)) (e := 68) (by kernel_rfl) (by rw [n5_size (by omega)]; omega)) ?_
                rintro ⟨⟩ -
                refine CfgL.done rfl ?_
                refine Conv.cfg (Γ' := [(46, [], .int .i64 (i : Int)), (45, [], .int .i64 (tl.length : Int)), (44, [], .slice (some ⟨pb, 1, none⟩) tl.length tl.length), (9, [], .pointer (some ⟨na, 0, none⟩)), (5, [], .int .i64 kd), (2, [], .pointer (some ⟨rs, 0, none⟩))]) (Conv.mk (by kernel_rfl)) ?_
                refine Cfg.reg rfl [2, 5, 9, 44, 45, 46] [] (Γ' := [(46, [], .int .i64 ((i : Int) + 1)), (45, [], .int .i64 (tl.length : Int)), (44, [], .slice (some ⟨pb, 1, none⟩) tl.length tl.length), (9, [], .pointer (some ⟨na, 0, none⟩)), (5, [], .int .i64 kd), (2, [], .pointer (some ⟨rs, 0, none⟩))]) (nd := (fun _ => [((-9223372036854775808 : Int) ≤ ((i : Int) + 1) ∧ ((i : Int) + 1) ≤ 9223372036854775807)])) (fun _ => by kernel_rfl) ⟨(by omega), trivial⟩ ?_
                have hvq : (n5 vals).setIfInBounds i (.int .u32 ((numV (ps.getD (i + 1) [])).1 : Int)) = n5 (vals ++ [(numV (ps.getD (i + 1) [])).1]) := by have h9 := n5_set (vals := vals) (by omega) (numV (ps.getD (i + 1) [])).1; rw [hvl] at h9; exact h9
                refine Cfg.setO (O' := [(na, .cells (n5 (vals ++ [(numV (ps.getD (i + 1) [])).1])) 68 (0, 0)), (pb, .cells ((strs ps).toArray) 9 (0, 0)), (rs, .cells ((stL sz0).toArray) 26 (0, 0))]) (congrArg (fun (xq : Array Value) => ([(na, .cells xq 68 (0, 0)), (pb, .cells ((strs ps).toArray) 9 (0, 0)), (rs, .cells ((stL sz0).toArray) 26 (0, 0))] : List (Nat × Obj))) (hvq)) ?_
                refine Cfg.again rfl (i + 1, vals ++ [(numV (ps.getD (i + 1) [])).1]) ⟨by omega, by rw [List.length_append, hvl]; rfl, allN_take (by omega) hva hnum⟩ (by show tl.length - (i + 1) < tl.length - i; omega) (Conv.mk (by kernel_rfl)) (.cons_cons _ (.cons_cons _ (.cons_cons _ .slnil)))
            · have c5 : (¬ ((i : Int) < (tl.length : Int))) := (of_decide_eq_false c5r)
              have hv15 : vals.length = 1 ∨ vals.length = 5 := by omega
              refine Cfg.begL rfl ?_
              refine CfgL.pure 12 [(0, false, none), (0, false, none), (0, false, some (.int .u32 ((gN vals 0) : Int))), (0, false, none), (0, false, some (.int .u32 ((gN vals 1) : Int))), (0, false, none), (0, false, some (.int .u32 ((gN vals 2) : Int))), (0, false, none), (0, false, some (.int .u32 ((gN vals 3) : Int))), (0, false, none), (0, false, some (.int .u32 ((gN vals 4) : Int))), (0, false, some (.agg (stL (mkS kd vals)).toArray))] (some [2, 74]) (Γ' := [(74, [], .agg (stL (mkS kd vals)).toArray), (2, [], .pointer (some ⟨rs, 0, none⟩))]) (nd := (fun S => [(0 ≤ (0 : Int) ∧ (0 : Int) < (5 : Int)), (∀ w1, S w1 → w1.cell? ⟨na, 0, none⟩ = some (.int .u32 ((gN vals 0) : Int))), (0 ≤ (1 : Int) ∧ (1 : Int) < (5 : Int)), (∀ w1, S w1 → w1.cell? ⟨na, 1, none⟩ = some (.int .u32 ((gN vals 1) : Int))), (0 ≤ (2 : Int) ∧ (2 : Int) < (5 : Int)), (∀ w1, S w1 → w1.cell? ⟨na, 2, none⟩ = some (.int .u32 ((gN vals 2) : Int))), (0 ≤ (3 : Int) ∧ (3 : Int) < (5 : Int)), (∀ w1, S w1 → w1.cell? ⟨na, 3, none⟩ = some (.int .u32 ((gN vals 3) : Int))), (0 ≤ (4 : Int) ∧ (4 : Int) < (5 : Int)), (∀ w1, S w1 → w1.cell? ⟨na, 4, none⟩ = some (.int .u32 ((gN vals 4) : Int))), (∀ w1, S w1 → (Instr.build 26 #[(0, .int .i64 kd), (1, .int .u32 ((gN vals 0) : Int)), (2, .int .u32 ((gN vals 1) : Int)), (3, .int .u32 ((gN vals 2) : Int)), (4, .int .u32 ((gN vals 3) : Int)), (5, .int .u32 ((gN vals 4) : Int))]).run Tryd.prog w1 = .ok (.agg (stL (mkS kd vals)).toArray) w1)])) (by kernel_rfl) (fun _ => by kernel_rfl) ⟨(by omega), (fun w1 h => h.ocell 0 rfl (n5_at (by omega) (by decide))), (by omega), (fun w1 h => h.ocell 0 rfl (n5_at (by omega) (by decide))), (by omega), (fun w1 h => h.ocell 0 rfl (n5_at (by omega) (by decide))), (by omega), (fun w1 h => h.ocell 0 rfl (n5_at (by omega) (by decide))), (by omega), (fun w1 h => h.ocell 0 rfl (n5_at (by omega) (by decide))), (fun _ _ => by rw [mk_cells hv15]; kernel_rfl), trivial⟩ ?_
              refine CfgL.eff (o := _) rfl (by kernel_rfl) (by kernel_rfl) (Eff.storeN (b := rs) (off := 0) (vs := (stL (mkS kd vals)).toArray) (n := 6) rfl (by kernel_rfl) (by kernel_rfl) (by kernel_rfl) rfl (st_all _) 2 (cs := (stL sz0).toArray) (e := 26) (by kernel_rfl) (by decide)) ?_
              rintro ⟨⟩ -
              refine CfgL.setO (O' := [(na, .cells (n5 vals) 68 (0, 0)), (pb, .cells ((strs ps).toArray) 9 (0, 0)), (rs, .cells ((stL (mkS kd vals)).toArray) 26 (0, 0))]) (congrArg (fun (xq : Array Value) => ([(na, .cells (n5 vals) 68 (0, 0)), (pb, .cells ((strs ps).toArray) 9 (0, 0)), (rs, .cells xq 26 (0, 0))] : List (Nat × Obj))) ((spl_all (cs := (stL sz0).toArray) (vs := (stL (mkS kd vals)).toArray) rfl))) ?_
              refine CfgL.pure 1 [] (some [2, 3]) (Γ' := [(3, [], .bool true), (2, [], .pointer (some ⟨rs, 0, none⟩))]) (nd := (fun _ => [])) (by kernel_rfl) (fun _ => by kernel_rfl) trivial ?_
              refine CfgL.done rfl ?_
              refine Cfg.ret rfl (rs := [.cell 2 26, .tmp 3]) rfl [.agg (stL (mkS kd vals)).toArray, .bool true] ⟨⟨_, by kernel_rfl, (fun w1 h => h.oload 2 rfl Tryd.underlying26 rfl (n := 6) (by kernel_rfl) rfl)⟩, by kernel_rfl, trivial⟩ (fun w1 hp => ?_)
              rw [List.take_of_length_le (by omega)] at hva
              rw [hva] at ho
              exact ⟨by rw [stepV_some ho]; rfl, hp.ext⟩
      · have c3 : (kd ≠ (3 : Int)) := (beq_eq_false_iff_ne.1 c3r)
        have hwn : wantN kd = 1 := want_n c3
        refine Cfg.reg rfl [2, 4, 5, 41] [] (Γ' := [(41, [], .bool ((kd == (0 : Int)) || ((ps.length : Int) != (2 : Int)))), (5, [], .int .i64 kd), (4, [], .slice (some ⟨pb, 0, none⟩) ps.length ps.length), (2, [], .pointer (some ⟨rs, 0, none⟩))]) (nd := (fun _ => [])) (fun _ => by kernel_rfl) trivial ?_
        refine Cfg.cond rfl (b := ((kd == (0 : Int)) || ((ps.length : Int) != (2 : Int)))) (by kernel_rfl) (fun c7r => ?_) (fun c7r => ?_)
        · have c7 : ((kd = (0 : Int)) ∨ ((ps.length : Int) ≠ (2 : Int))) := ((orT c7r).elim (fun h => Or.inl (beq_iff_eq.1 h)) (fun h => Or.inr (bne_iff_ne.1 h)))
          have ho : oneP t.data.toList = none := oneP_bad (tl := tl) (by rw [htl, hps, hw0]) (by rw [← hw0, ← hkd, hwn]; omega)
          refine Cfg.begL rfl ?_
          refine CfgL.pure 1 [(0, false, some (.agg (stL sz0).toArray))] (some [2, 42]) (Γ' := [(42, [], .agg (stL sz0).toArray), (2, [], .pointer (some ⟨rs, 0, none⟩))]) (nd := (fun S => [(∀ w1, S w1 → (Instr.build 26 #[]).run Tryd.prog w1 = .ok (.agg (stL sz0).toArray) w1)])) (by kernel_rfl) (fun _ => by kernel_rfl) ⟨(fun _ _ => by kernel_rfl), trivial⟩ ?_
          refine CfgL.eff (o := _) rfl (by kernel_rfl) (by kernel_rfl) (Eff.storeN (b := rs) (off := 0) (vs := (stL sz0).toArray) (n := 6) rfl (by kernel_rfl) (by kernel_rfl) (by kernel_rfl) rfl (st_all _) 1 (cs := (stL sz0).toArray) (e := 26) (by kernel_rfl) (by decide)) ?_
          rintro ⟨⟩ -
          refine CfgL.setO (O' := [(pb, .cells ((strs ps).toArray) 9 (0, 0)), (rs, .cells ((stL sz0).toArray) 26 (0, 0))]) (congrArg (fun (xq : Array Value) => ([(pb, .cells ((strs ps).toArray) 9 (0, 0)), (rs, .cells xq 26 (0, 0))] : List (Nat × Obj))) ((spl_all (cs := (stL sz0).toArray) (vs := (stL sz0).toArray) rfl))) ?_
          refine CfgL.pure 1 [] (some [2, 3]) (Γ' := [(3, [], .bool false), (2, [], .pointer (some ⟨rs, 0, none⟩))]) (nd := (fun _ => [])) (by kernel_rfl) (fun _ => by kernel_rfl) trivial ?_
          refine CfgL.done rfl ?_
          refine Cfg.ret rfl (rs := [.cell 2 26, .tmp 3]) rfl [.agg (stL sz0).toArray, .bool false] ⟨⟨_, by kernel_rfl, (fun w1 h => h.oload 1 rfl Tryd.underlying26 rfl (n := 6) (by kernel_rfl) rfl)⟩, by kernel_rfl, trivial⟩ (fun w1 hp => ?_)
          exact ⟨by rw [stepV_none ho]; rfl, hp.ext⟩
        · have c7 : ((kd ≠ (0 : Int)) ∧ ((ps.length : Int) = (2 : Int))) := ⟨(beq_eq_false_iff_ne.1 (orF1 c7r)), (bne_eq_false_iff_eq.1 (orF2 c7r))⟩
          have ho : oneP t.data.toList = (allN tl).map (mkS kd) := by have h9 := oneP_all (l := t.data.toList) (tl := tl) (by rw [htl, hps, hw0]) (by rw [← hw0, ← hkd, hwn]; omega); rw [← hw0, ← hkd] at h9; exact h9
          refine Cfg.begL rfl ?_
          refine CfgL.eff (o := _) rfl (by kernel_rfl) (by kernel_rfl) (Eff.alloc (z := (.agg (n5 []))) rfl (by kernel_rfl)) ?_
          rintro na ⟨hna, nna⟩
          refine CfgL.done rfl ?_
          refine Conv.cfg (Γ' := [(9, [], .pointer (some ⟨na, 0, none⟩)), (5, [], .int .i64 kd), (4, [], .slice (some ⟨pb, 0, none⟩) ps.length ps.length), (2, [], .pointer (some ⟨rs, 0, none⟩))]) (Conv.mk (by kernel_rfl)) ?_
          refine Cfg.reg rfl [2, 5, 9, 44, 45, 46] [] (Γ' := [(46, [], .int .i64 0), (45, [], .int .i64 (((ps.length - 1) : Nat) : Int)), (44, [], .slice (some ⟨pb, (if ps.length = 1 then 0 else 1), none⟩) (ps.length - 1) (ps.length - 1)), (9, [], .pointer (some ⟨na, 0, none⟩)), (5, [], .int .i64 kd), (2, [], .pointer (some ⟨rs, 0, none⟩))]) (nd := (fun _ => [(0 ≤ (1 : Int)), (1 ≤ ps.length ∧ ps.length ≤ ps.length)])) (fun _ => by kernel_rfl) ⟨(by omega), (by omega), trivial⟩ ?_
          refine Cfg.setG (Γ' := [(46, [], .int .i64 0), (45, [], .int .i64 (((ps.length - 1) : Nat) : Int)), (44, [], .slice (some ⟨pb, 1, none⟩) tl.length tl.length), (9, [], .pointer (some ⟨na, 0, none⟩)), (5, [], .int .i64 kd), (2, [], .pointer (some ⟨rs, 0, none⟩))]) (congrArg (fun (xq : Value) => ([(46, [], .int .i64 0), (45, [], .int .i64 (((ps.length - 1) : Nat) : Int)), (44, [], xq), (9, [], .pointer (some ⟨na, 0, none⟩)), (5, [], .int .i64 kd), (2, [], .pointer (some ⟨rs, 0, none⟩))] : Env)) (by rw [if_neg (by omega), show ps.length - 1 = tl.length by omega])) ?_
          refine Cfg.setG (Γ' := [(46, [], .int .i64 0), (45, [], .int .i64 (tl.length : Int)), (44, [], .slice (some ⟨pb, 1, none⟩) tl.length tl.length), (9, [], .pointer (some ⟨na, 0, none⟩)), (5, [], .int .i64 kd), (2, [], .pointer (some ⟨rs, 0, none⟩))]) (congrArg (fun (xq : Int) => ([(46, [], .int .i64 0), (45, [], .int .i64 xq), (44, [], .slice (some ⟨pb, 1, none⟩) tl.length tl.length), (9, [], .pointer (some ⟨na, 0, none⟩)), (5, [], .int .i64 kd), (2, [], .pointer (some ⟨rs, 0, none⟩))] : Env)) (by omega)) ?_
          refine Cfg.loop rfl (ι := Nat × List Nat) (fun (xz : Nat × List Nat) => match xz with | (i, vals) => [(46, [], .int .i64 (i : Int)), (45, [], .int .i64 (tl.length : Int)), (44, [], .slice (some ⟨pb, 1, none⟩) tl.length tl.length), (9, [], .pointer (some ⟨na, 0, none⟩)), (5, [], .int .i64 kd), (2, [], .pointer (some ⟨rs, 0, none⟩))]) (fun (xz : Nat × List Nat) => match xz with | (i, vals) => [(na, .cells (n5 vals) 68 (0, 0)), (pb, .cells ((strs ps).toArray) 9 (0, 0)), (rs, .cells ((stL sz0).toArray) 26 (0, 0))]) (fun (xz : Nat × List Nat) => match xz with | (i, vals) => (i ≤ tl.length) ∧ (vals.length = i) ∧ (allN (tl.take i) = some vals)) (fun (xz : Nat × List Nat) => match xz with | (i, vals) => tl.length - i) (0, []) ?_ (Conv.mk (by kernel_rfl)) (List.Sublist.refl _) ?_
          · exact ⟨Nat.zero_le _, rfl, rfl⟩
          · rintro ⟨i, vals⟩ ⟨hi, hvl, hva⟩
            refine Cfg.reg rfl [2, 5, 9, 44, 45, 46, 47] [] (Γ' := [(47, [], .bool (decide ((i : Int) < (tl.length : Int)))), (46, [], .int .i64 (i : Int)), (45, [], .int .i64 (tl.length : Int)), (44, [], .slice (some ⟨pb, 1, none⟩) tl.length tl.length), (9, [], .pointer (some ⟨na, 0, none⟩)), (5, [], .int .i64 kd), (2, [], .pointer (some ⟨rs, 0, none⟩))]) (nd := (fun _ => [])) (fun _ => by kernel_rfl) trivial ?_
            refine Cfg.cond rfl (b := (decide ((i : Int) < (tl.length : Int)))) (by kernel_rfl) (fun c8r => ?_) (fun c8r => ?_)
            · have c8 : ((i : Int) < (tl.length : Int)) := (of_decide_eq_true c8r)
              refine Cfg.reg rfl [2, 5, 9, 10, 11, 44, 45, 46] [(0, false, none), (0, false, none), (0, false, some (.string (tx (ps.getD (i + 1) []))))] (Γ' := [(11, [], .string (tx (ps.getD (i + 1) []))), (10, [], .int .i64 (i : Int)), (46, [], .int .i64 (i : Int)), (45, [], .int .i64 (tl.length : Int)), (44, [], .slice (some ⟨pb, 1, none⟩) tl.length tl.length), (9, [], .pointer (some ⟨na, 0, none⟩)), (5, [], .int .i64 kd), (2, [], .pointer (some ⟨rs, 0, none⟩))]) (nd := (fun S => [(0 ≤ (i : Int) ∧ (i : Int) < (tl.length : Int)), (∀ w1, S w1 → w1.cell? ⟨pb, (addO 1 i), none⟩ = some (.string (tx (ps.getD (i + 1) []))))])) (fun _ => by kernel_rfl) ⟨(by omega), (fun w1 h => h.ocell 1 rfl (by rw [addO_eq, Nat.add_comm 1 i]; exact strs_at (by omega))), trivial⟩ ?_
              refine Cfg.begL rfl ?_
              refine CfgL.pure 1 [] (some [2, 5, 9, 10, 44, 45, 46, 52]) (Γ' := [(52, [], .string (tx (ps.getD (i + 1) []))), (10, [], .int .i64 (i : Int)), (46, [], .int .i64 (i : Int)), (45, [], .int .i64 (tl.length : Int)), (44, [], .slice (some ⟨pb, 1, none⟩) tl.length tl.length), (9, [], .pointer (some ⟨na, 0, none⟩)), (5, [], .int .i64 kd), (2, [], .pointer (some ⟨rs, 0, none⟩))]) (nd := (fun _ => [])) (by kernel_rfl) (fun _ => by kernel_rfl) trivial ?_
              refine CfgL.eff (o := _) rfl (by kernel_rfl) (by kernel_rfl) (Eff.callA (vs := [.string (tx (ps.getD (i + 1) []))]) (.tuple #[.int .u32 (((numV (ps.getD (i + 1) [])).1 : Nat) : Int), .bool (numV (ps.getD (i + 1) [])).2]) rfl Tryd.func28 rfl rfl (by kernel_rfl) (fun w1 _ => sNumber (tx (ps.getD (i + 1) [])) w1 (by rw [tx_size]; have := hpp (i + 1); unfold maxLen; omega))) ?_
              rintro ⟨⟩ -
              refine CfgL.pure 5 [] (some [2, 5, 9, 10, 12, 13, 44, 45, 46]) (Γ' := [(13, [], .bool (numV (ps.getD (i + 1) [])).2), (12, [], .int .u32 (((numV (ps.getD (i + 1) [])).1 : Nat) : Int)), (10, [], .int .i64 (i : Int)), (46, [], .int .i64 (i : Int)), (45, [], .int .i64 (tl.length : Int)), (44, [], .slice (some ⟨pb, 1, none⟩) tl.length tl.length), (9, [], .pointer (some ⟨na, 0, none⟩)), (5, [], .int .i64 kd), (2, [], .pointer (some ⟨rs, 0, none⟩))]) (nd := (fun _ => [])) (by kernel_rfl) (fun _ => by kernel_rfl) trivial ?_
              refine CfgL.done rfl ?_
              refine Cfg.reg rfl [2, 5, 9, 10, 12, 44, 45, 46, 57] [] (Γ' := [(57, [], .bool (!(numV (ps.getD (i + 1) [])).2)), (12, [], .int .u32 (((numV (ps.getD (i + 1) [])).1 : Nat) : Int)), (10, [], .int .i64 (i : Int)), (46, [], .int .i64 (i : Int)), (45, [], .int .i64 (tl.length : Int)), (44, [], .slice (some ⟨pb, 1, none⟩) tl.length tl.length), (9, [], .pointer (some ⟨na, 0, none⟩)), (5, [], .int .i64 kd), (2, [], .pointer (some ⟨rs, 0, none⟩))]) (nd := (fun _ => [])) (fun _ => by kernel_rfl) trivial ?_
              refine Cfg.cond rfl (b := (!(numV (ps.getD (i + 1) [])).2)) (by kernel_rfl) (fun c9r => ?_) (fun c9r => ?_)
              · have c9 : ((numV (ps.getD (i + 1) [])).2 = false) := (notT c9r)
                have hnq : ps.getD (i + 1) [] = tl.getD i [] := by rw [hps]; rfl
                have hnum : numP (tl.getD i []) = none := by rw [← hnq]; exact numV_no (by simpa using c9r)
                rw [allN_no (by omega) hnum] at ho
                refine Cfg.begL rfl ?_
                refine CfgL.pure 1 [(0, false, some (.agg (stL sz0).toArray))] (some [2, 58]) (Γ' := [(58, [], .agg (stL sz0).toArray), (2, [], .pointer (some ⟨rs, 0, none⟩))]) (nd := (fun S => [(∀ w1, S w1 → (Instr.build 26 #[]).run Tryd.prog w1 = .ok (.agg (stL sz0).toArray) w1)])) (by kernel_rfl) (fun _ => by kernel_rfl) ⟨(fun _ _ => by kernel_rfl), trivial⟩ ?_
                refine CfgL.eff (o := _) rfl (by kernel_rfl) (by kernel_rfl) (Eff.storeN (b := rs) (off := 0) (vs := (stL sz0).toArray) (n := 6) rfl (by kernel_rfl) (by kernel_rfl) (by kernel_rfl) rfl (st_all _) 2 (cs := (stL sz0).toArray) (e := 26) (by kernel_rfl) (by decide)) ?_
                rintro ⟨⟩ -
                refine CfgL.setO (O' := [(na, .cells (n5 vals) 68 (0, 0)), (pb, .cells ((strs ps).toArray) 9 (0, 0)), (rs, .cells ((stL sz0).toArray) 26 (0, 0))]) (congrArg (fun (xq : Array Value) => ([(na, .cells (n5 vals) 68 (0, 0)), (pb, .cells ((strs ps).toArray) 9 (0, 0)), (rs, .cells xq 26 (0, 0))] : List (Nat × Obj))) ((spl_all (cs := (stL sz0).toArray) (vs := (stL sz0).toArray) rfl))) ?_
                refine CfgL.pure 1 [] (some [2, 3]) (Γ' := [(3, [], .bool false), (2, [], .pointer (some ⟨rs, 0, none⟩))]) (nd := (fun _ => [])) (by kernel_rfl) (fun _ => by kernel_rfl) trivial ?_
                refine CfgL.done rfl ?_
                refine Cfg.ret rfl (rs := [.cell 2 26, .tmp 3]) rfl [.agg (stL sz0).toArray, .bool false] ⟨⟨_, by kernel_rfl, (fun w1 h => h.oload 2 rfl Tryd.underlying26 rfl (n := 6) (by kernel_rfl) rfl)⟩, by kernel_rfl, trivial⟩ (fun w1 hp => ?_)
                exact ⟨by rw [stepV_none ho]; rfl, hp.ext⟩
              · have c9 : ((numV (ps.getD (i + 1) [])).2 = true) := (notF c9r)
                have hnq : ps.getD (i + 1) [] = tl.getD i [] := by rw [hps]; rfl
                have hnum : numP (tl.getD i []) = some (numV (ps.getD (i + 1) [])).1 := by rw [← hnq]; exact numV_yes (by simpa using c9r)
                refine Cfg.begL rfl ?_
                refine CfgL.pure 3 [] (some [2, 5, 9, 44, 45, 46, 60, 61]) (Γ' := [(61, [], .pointer (some ⟨na, i, none⟩)), (60, [], .int .u32 (((numV (ps.getD (i + 1) [])).1 : Nat) : Int)), (46, [], .int .i64 (i : Int)), (45, [], .int .i64 (tl.length : Int)), (44, [], .slice (some ⟨pb, 1, none⟩) tl.length tl.length), (9, [], .pointer (some ⟨na, 0, none⟩)), (5, [], .int .i64 kd), (2, [], .pointer (some ⟨rs, 0, none⟩))]) (nd := (fun _ => [(0 ≤ (i : Int) ∧ (i : Int) < (5 : Int))])) (by kernel_rfl) (fun _ => by kernel_rfl) ⟨(by omega), trivial⟩ ?_
                refine CfgL.eff (o := _) rfl (by kernel_rfl) (by kernel_rfl) (Eff.store1 (b := na) (off := i) (v := .int .u32 (((numV (ps.getD (i + 1) [])).1 : Nat) : Int)) rfl (by kernel_rfl) (by kernel_rfl) rfl (by kernel_rfl) 0 (cs := (n5 vals)) (e := 68) (by kernel_rfl) (by rw [n5_size (by omega)]; omega)) ?_
                rintro ⟨⟩ -
                refine CfgL.done rfl ?_
                refine Conv.cfg (Γ' := [(46, [], .int .i64 (i : Int)), (45, [], .int .i64 (tl.length : Int)), (44, [], .slice (some ⟨pb, 1, none⟩) tl.length tl.length), (9, [], .pointer (some ⟨na, 0, none⟩)), (5, [], .int .i64 kd), (2, [], .pointer (some ⟨rs, 0, none⟩))]) (Conv.mk (by kernel_rfl)) ?_
                refine Cfg.reg rfl [2, 5, 9, 44, 45, 46] [] (Γ' := [(46, [], .int .i64 ((i : Int) + 1)), (45, [], .int .i64 (tl.length : Int)), (44, [], .slice (some ⟨pb, 1, none⟩) tl.length tl.length), (9, [], .pointer (some ⟨na, 0, none⟩)), (5, [], .int .i64 kd), (2, [], .pointer (some ⟨rs, 0, none⟩))]) (nd := (fun _ => [((-9223372036854775808 : Int) ≤ ((i : Int) + 1) ∧ ((i : Int) + 1) ≤ 9223372036854775807)])) (fun _ => by kernel_rfl) ⟨(by omega), trivial⟩ ?_
                have hvq : (n5 vals).setIfInBounds i (.int .u32 ((numV (ps.getD (i + 1) [])).1 : Int)) = n5 (vals ++ [(numV (ps.getD (i + 1) [])).1]) := by have h9 := n5_set (vals := vals) (by omega) (numV (ps.getD (i + 1) [])).1; rw [hvl] at h9; exact h9
                refine Cfg.setO (O' := [(na, .cells (n5 (vals ++ [(numV (ps.getD (i + 1) [])).1])) 68 (0, 0)), (pb, .cells ((strs ps).toArray) 9 (0, 0)), (rs, .cells ((stL sz0).toArray) 26 (0, 0))]) (congrArg (fun (xq : Array Value) => ([(na, .cells xq 68 (0, 0)), (pb, .cells ((strs ps).toArray) 9 (0, 0)), (rs, .cells ((stL sz0).toArray) 26 (0, 0))] : List (Nat × Obj))) (hvq)) ?_
                refine Cfg.again rfl (i + 1, vals ++ [(numV (ps.getD (i + 1) [])).1]) ⟨by omega, by rw [List.length_append, hvl]; rfl, allN_take (by omega) hva hnum⟩ (by show tl.length - (i + 1) < tl.length - i; omega) (Conv.mk (by kernel_rfl)) (.cons_cons _ (.cons_cons _ (.cons_cons _ .slnil)))
            · have c8 : (¬ ((i : Int) < (tl.length : Int))) := (of_decide_eq_false c8r)
              have hv15 : vals.length = 1 ∨ vals.length = 5 := by omega
              refine Cfg.begL rfl ?_
              refine CfgL.pure 12 [(0, false, none), (0, false, none), (0, false, some (.int .u32 ((gN vals 0) : Int))), (0, false, none), (0, false, some (.int .u32 ((gN vals 1) : Int))), (0, false, none), (0, false, some (.int .u32 ((gN vals 2) : Int))), (0, false, none), (0, false, some (.int .u32 ((gN vals 3) : Int))), (0, false, none), (0, false, some (.int .u32 ((gN vals 4) : Int))), (0, false, some (.agg (stL (mkS kd vals)).toArray))] (some [2, 74]) (Γ' := [(74, [], .agg (stL (mkS kd vals)).toArray), (2, [], .pointer (some ⟨rs, 0, none⟩))]) (nd := (fun S => [(0 ≤ (0 : Int) ∧ (0 : Int) < (5 : Int)), (∀ w1, S w1 → w1.cell? ⟨na, 0, none⟩ = some (.int .u32 ((gN vals 0) : Int))), (0 ≤ (1 : Int) ∧ (1 : Int) < (5 : Int)), (∀ w1, S w1 → w1.cell? ⟨na, 1, none⟩ = some (.int .u32 ((gN vals 1) : Int))), (0 ≤ (2 : Int) ∧ (2 : Int) < (5 : Int)), (∀ w1, S w1 → w1.cell? ⟨na, 2, none⟩ = some (.int .u32 ((gN vals 2) : Int))), (0 ≤ (3 : Int) ∧ (3 : Int) < (5 : Int)), (∀ w1, S w1 → w1.cell? ⟨na, 3, none⟩ = some (.int .u32 ((gN vals 3) : Int))), (0 ≤ (4 : Int) ∧ (4 : Int) < (5 : Int)), (∀ w1, S w1 → w1.cell? ⟨na, 4, none⟩ = some (.int .u32 ((gN vals 4) : Int))), (∀ w1, S w1 → (Instr.build 26 #[(0, .int .i64 kd), (1, .int .u32 ((gN vals 0) : Int)), (2, .int .u32 ((gN vals 1) : Int)), (3, .int .u32 ((gN vals 2) : Int)), (4, .int .u32 ((gN vals 3) : Int)), (5, .int .u32 ((gN vals 4) : Int))]).run Tryd.prog w1 = .ok (.agg (stL (mkS kd vals)).toArray) w1)])) (by kernel_rfl) (fun _ => by kernel_rfl) ⟨(by omega), (fun w1 h => h.ocell 0 rfl (n5_at (by omega) (by decide))), (by omega), (fun w1 h => h.ocell 0 rfl (n5_at (by omega) (by decide))), (by omega), (fun w1 h => h.ocell 0 rfl (n5_at (by omega) (by decide))), (by omega), (fun w1 h => h.ocell 0 rfl (n5_at (by omega) (by decide))), (by omega), (fun w1 h => h.ocell 0 rfl (n5_at (by omega) (by decide))), (fun _ _ => by rw [mk_cells hv15]; kernel_rfl), trivial⟩ ?_
              refine CfgL.eff (o := _) rfl (by kernel_rfl) (by kernel_rfl) (Eff.storeN (b := rs) (off := 0) (vs := (stL (mkS kd vals)).toArray) (n := 6) rfl (by kernel_rfl) (by kernel_rfl) (by kernel_rfl) rfl (st_all _) 2 (cs := (stL sz0).toArray) (e := 26) (by kernel_rfl) (by decide)) ?_
              rintro ⟨⟩ -
              refine CfgL.setO (O' := [(na, .cells (n5 vals) 68 (0, 0)), (pb, .cells ((strs ps).toArray) 9 (0, 0)), (rs, .cells ((stL (mkS kd vals)).toArray) 26 (0, 0))]) (congrArg (fun (xq : Array Value) => ([(na, .cells (n5 vals) 68 (0, 0)), (pb, .cells ((strs ps).toArray) 9 (0, 0)), (rs, .cells xq 26 (0, 0))] : List (Nat × Obj))) ((spl_all (cs := (stL sz0).toArray) (vs := (stL (mkS kd vals)).toArray) rfl))) ?_
              refine CfgL.pure 1 [] (some [2, 3]) (Γ' := [(3, [], .bool true), (2, [], .pointer (some ⟨rs, 0, none⟩))]) (nd := (fun _ => [])) (by kernel_rfl) (fun _ => by kernel_rfl) trivial ?_
              refine CfgL.done rfl ?_
              refine Cfg.ret rfl (rs := [.cell 2 26, .tmp 3]) rfl [.agg (stL (mkS kd vals)).toArray, .bool true] ⟨⟨_, by kernel_rfl, (fun w1 h => h.oload 2 rfl Tryd.underlying26 rfl (n := 6) (by kernel_rfl) rfl)⟩, by kernel_rfl, trivial⟩ (fun w1 hp => ?_)
              rw [List.take_of_length_le (by omega)] at hva
              rw [hva] at ho
              exact ⟨by rw [stepV_some ho]; rfl, hp.ext⟩

end Go.Proofs.YtoopekjbikcebaaDoor
