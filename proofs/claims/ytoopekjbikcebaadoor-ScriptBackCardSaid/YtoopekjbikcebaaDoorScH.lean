/- script: the lines of a text, one by one. -/
import Derived.Test.YtoopekjbikcebaaDoorScG
import Derived.Test.YtoopekjbikcebaaDoorK26
namespace Go.Proofs.YtoopekjbikcebaaDoor
open K
set_option linter.unusedVariables false

/-! The lines of a text -/
def lnsA (cur : List UInt8) : List UInt8 → List (List UInt8)
  | [] => if cur = [] then [] else [cur]
  | c :: r => if c = 10 then (cur ++ [10]) :: lnsA [] r else lnsA (cur ++ [c]) r
theorem ln_line : ∀ (b cur r : List UInt8), b.all ne10 = true → lnsA cur (b ++ 10 :: r) = (cur ++ b ++ [10]) :: lnsA [] r
  | [], cur, r, _ => by rw [List.append_nil]; rfl
  | c :: b, cur, r, h => by
    rw [List.all_cons, Bool.and_eq_true] at h
    have hc : ¬ c = 10 := by have := h.1; unfold ne10 at this; simpa using this
    show (if c = 10 then _ else lnsA (cur ++ [c]) (b ++ 10 :: r)) = _
    rw [if_neg hc, ln_line b (cur ++ [c]) r h.2, List.append_assoc cur [c] b]; rfl
theorem ln_last : ∀ (b cur : List UInt8), b.all ne10 = true → cur ++ b ≠ [] → lnsA cur b = [cur ++ b]
  | [], cur, _, hn => by
    rw [List.append_nil] at hn ⊢
    show (if cur = [] then [] else [cur]) = _
    rw [if_neg hn]
  | c :: b, cur, h, hn => by
    rw [List.all_cons, Bool.and_eq_true] at h
    have hc : ¬ c = 10 := by have := h.1; unfold ne10 at this; simpa using this
    show (if c = 10 then _ else lnsA (cur ++ [c]) b) = _
    rw [if_neg hc, ln_last b (cur ++ [c]) h.2 (by simp), List.append_assoc]; rfl
theorem ne10_head {l : List UInt8} : l.dropWhile ne10 = [] ∨ ∃ r, l.dropWhile ne10 = 10 :: r := by
  rcases dropWhile_head ne10 l with h | ⟨c, r, h, hc⟩
  · exact Or.inl h
  · refine Or.inr ⟨r, ?_⟩; rw [h]; unfold ne10 at hc; simp at hc; rw [hc]
theorem drop_10 {s : List UInt8} (h : s.dropWhile ne10 ≠ []) : ∃ r, lnsA [] s = (s.takeWhile ne10 ++ [10]) :: lnsA [] r ∧ Lib.indexByte s 10 = ((s.takeWhile ne10).length : Int) ∧ r = s.drop ((s.takeWhile ne10).length + 1) ∧ s.take ((s.takeWhile ne10).length + 1) = s.takeWhile ne10 ++ [10] ∧ r.length + ((s.takeWhile ne10).length + 1) = s.length := by
  rcases ne10_head (l := s) with h0 | ⟨r, h0⟩
  · exact absurd h0 h
  · have h1 : s = s.takeWhile ne10 ++ 10 :: r := by rw [← h0, List.takeWhile_append_dropWhile]
    have h2 : s.length = (s.takeWhile ne10).length + (r.length + 1) := by
      conv => lhs; rw [h1]
      rw [List.length_append, List.length_cons]
    have h3 := dropWhile_drop ne10 s
    rw [h0] at h3
    refine ⟨r, ?_, by rw [ix_10, if_neg h], by rw [← List.drop_drop, ← h3]; rfl, ?_, by omega⟩
    · conv => lhs; rw [h1]
      rw [ln_line _ _ _ (takeWhile_all _ _)]; rfl
    · have h4 : s.take (s.takeWhile ne10).length = s.takeWhile ne10 := by
        conv => lhs; rw [← List.takeWhile_append_dropWhile (p := ne10) (l := s)]
        rw [List.take_append_of_le_length (by rw [List.takeWhile_append_dropWhile]; exact Nat.le_refl _), List.takeWhile_append_dropWhile, List.take_length]
      rw [List.take_add, h4, ← h3]; rfl
theorem last_10 {s : List UInt8} (h : s.dropWhile ne10 = []) (hn : s ≠ []) : lnsA [] s = [s] := by
  have e : s.takeWhile ne10 = s := by
    have := List.takeWhile_append_dropWhile (p := ne10) (l := s)
    rw [h, List.append_nil] at this; exact this
  have h2 := takeWhile_all ne10 s
  rw [e] at h2
  exact ln_last s [] h2 hn
theorem single_10 {s : List UInt8} (hn : s ≠ []) (h : Lib.indexByte s 10 < 0) : s.dropWhile ne10 = [] := by
  rcases Classical.em (s.dropWhile ne10 = []) with h0 | h0
  · exact h0
  · obtain ⟨r, _, h1, _⟩ := drop_10 h0
    omega
theorem more_line {s : List UInt8} (h : ¬ Lib.indexByte s 10 < 0) : s.dropWhile ne10 ≠ [] := fun h0 => by
  rw [ix_10, if_pos h0] at h; omega

set_option maxRecDepth 100000 in
theorem linesIt0 (l dr tb : Nat) (fi : FuncId) (T : Array Value) (ps : Array Tmp) (assign body : Code) (t : ByteArray) (σ : Type) (A : σ → List (Nat × Obj)) (J : List (List UInt8) → σ → Prop) (s0 : σ) (p : List UInt8 → Bool) (w : World) (hn : t.size ≤ maxLen) (hps : ps.size = 1) (hJ : J [] s0) (hA : Has w ((tb, Obj.cells #[.string t] 9 (0, 0)) :: A s0)) (hd : (((tb, Obj.cells #[.string t] 9 (0, 0)) :: A s0).map (·.1)).Nodup) (hmem : ∀ pre x, (∀ y ∈ pre, p y = true) → J pre x → (l, Obj.loop (rec0 fi T ps assign body dr .ready none)) ∈ A x) (hy : ∀ pre x (a : List UInt8) rest, (∀ y ∈ pre, p y = true) → J pre x → lnsA [] t.data.toList = pre ++ a :: rest → ∀ w, Has w (A x) → ((A x).map (·.1)).Nodup → RoundIn Fence.wide 0 Tryd.prog l fi ((ps.zip #[(fun (x : List UInt8) => Value.string (tx x)) a]).foldl (fun tmps (t, a) => tmps.setIfInBounds t a) T) assign body w fun e w' => ∃ y, J (pre ++ [a]) y ∧ e = .returned (.bool (p a)) ∧ ∃ R1, HP w ((A x).map (·.1)) R1 (A y) w') :
    Calls Tryd.prog 24 #[.func (.yield l) #[] #[], .pointer (some ⟨tb, 0, none⟩)] w fun e w' => ∃ y, J (vis p (lnsA [] t.data.toList)) y ∧ e = .returned (.tuple #[]) ∧ ∃ R1 ob, HP w (((tb, Obj.cells #[.string t] 9 (0, 0)) :: A s0).map (·.1)) R1 ((tb, ob) :: A y) w' := by
  have hlen := ba_len t
  unfold maxLen at hn
  refine enter (vs := [.func (.yield l) #[] #[], .pointer (some ⟨tb, 0, none⟩)]) (((tb, Obj.cells #[.string t] 9 (0, 0)) :: A s0).map (·.1)) [] ([(tb, .cells #[.string t] 9 (0, 0))] ++ (A s0 ++ [])) Tryd.func24 rfl (by kernel_rfl) (by have h0 := HP.ofL hA hd (R := []) (fun e he => by cases he) (fun e he => by cases he); simpa using h0) ?_
  refine Cfg.setO (O' := ([(tb, .cells #[.string (tx t.data.toList)] 9 (0, 0))] ++ (A s0 ++ []))) (congrArg (fun (xq : Array Value) => (([(tb, .cells xq 9 (0, 0))] ++ (A s0 ++ [])) : List (Nat × Obj))) (by rw [tx_back])) ?_
  refine Cfg.loop rfl (ι := List UInt8 × List (List UInt8) × σ) (fun (xz : List UInt8 × List (List UInt8) × σ) => match xz with | (rem, pre, x) => [(0, [], .func (.yield l) #[] #[]), (1, [], .pointer (some ⟨tb, 0, none⟩))]) (fun (xz : List UInt8 × List (List UInt8) × σ) => match xz with | (rem, pre, x) => ([(tb, .cells #[.string (tx rem)] 9 (0, 0))] ++ (A x ++ []))) (fun (xz : List UInt8 × List (List UInt8) × σ) => match xz with | (rem, pre, x) => (rem.length ≤ t.size) ∧ (lnsA [] t.data.toList = pre ++ lnsA [] rem) ∧ (∀ x ∈ pre, p x = true) ∧ (J pre x)) (fun (xz : List UInt8 × List (List UInt8) × σ) => match xz with | (rem, pre, x) => rem.length) (t.data.toList, [], s0) ?_ (Conv.mk (by kernel_rfl)) (List.Sublist.refl _) ?_
  · exact ⟨Nat.le_of_eq hlen, rfl, (fun x hx => by cases hx), hJ⟩
  · rintro ⟨rem, pre, x⟩ ⟨hk, hR, hal, hJx⟩
    refine Cfg.reg rfl [0, 1, 7] [(0, false, some (.string (tx rem)))] (Γ' := [(7, [], .bool (decide (((tx rem).size : Int) > (0 : Int)))), (0, [], .func (.yield l) #[] #[]), (1, [], .pointer (some ⟨tb, 0, none⟩))]) (nd := (fun S => [(∀ w1, S w1 → w1.cell? ⟨tb, 0, none⟩ = some (.string (tx rem)))])) (fun _ => by kernel_rfl) ⟨(fun w1 h => h.ocell 0 rfl rfl), trivial⟩ ?_
    refine Cfg.cond rfl (b := (decide (((tx rem).size : Int) > (0 : Int)))) (by kernel_rfl) (fun c1r => ?_) (fun c1r => ?_)
    · have c1 : (((tx rem).size : Int) > (0 : Int)) := (of_decide_eq_true c1r)
      have hrn : rem ≠ [] := fun h => by rw [tx_size, h] at c1; simp at c1
      refine Cfg.reg rfl [0, 1] [] (Γ' := [(0, [], .func (.yield l) #[] #[]), (1, [], .pointer (some ⟨tb, 0, none⟩))]) (nd := (fun _ => [])) (fun _ => by kernel_rfl) trivial ?_
      refine Cfg.begL rfl ?_
      refine CfgL.pure 1 [(0, false, some (.string (tx rem)))] none (Γ' := [(8, [], .string (tx rem)), (0, [], .func (.yield l) #[] #[]), (1, [], .pointer (some ⟨tb, 0, none⟩))]) (nd := (fun S => [(∀ w1, S w1 → w1.cell? ⟨tb, 0, none⟩ = some (.string (tx rem)))])) (by kernel_rfl) (fun _ => by kernel_rfl) ⟨(fun w1 h => h.ocell 0 rfl rfl), trivial⟩ ?_
      refine CfgL.eff (o := _) rfl (by kernel_rfl) (by kernel_rfl) (Eff.callA (vs := [.string (tx rem), .int .u8 10]) (.int .i64 (Lib.indexByte rem 10)) rfl Tryd.func25 rfl rfl (by kernel_rfl) (fun w1 _ => sIndexByte (tx rem) 10 w1)) ?_
      rintro ⟨⟩ -
      refine CfgL.pure 1 [] (some [0, 1, 4]) (Γ' := [(4, [], .int .i64 (Lib.indexByte rem 10)), (0, [], .func (.yield l) #[] #[]), (1, [], .pointer (some ⟨tb, 0, none⟩))]) (nd := (fun _ => [])) (by kernel_rfl) (fun _ => by kernel_rfl) trivial ?_
      refine CfgL.done rfl ?_
      refine Cfg.reg rfl [0, 1, 4, 11] [] (Γ' := [(11, [], .bool (decide ((Lib.indexByte rem 10) ≥ (0 : Int)))), (4, [], .int .i64 (Lib.indexByte rem 10)), (0, [], .func (.yield l) #[] #[]), (1, [], .pointer (some ⟨tb, 0, none⟩))]) (nd := (fun _ => [])) (fun _ => by kernel_rfl) trivial ?_
      refine Cfg.cond rfl (b := (decide ((Lib.indexByte rem 10) ≥ (0 : Int)))) (by kernel_rfl) (fun c2r => ?_) (fun c2r => ?_)
      · have c2 : ((Lib.indexByte rem 10) ≥ (0 : Int)) := (of_decide_eq_true c2r)
        obtain ⟨r, hr1, hr2, hr3, hr4, hr5⟩ := drop_10 (more_line (s := rem) (by omega))
        obtain ⟨it, hit⟩ : ∃ it, rem.takeWhile ne10 ++ [10] = it := ⟨_, rfl⟩
        rw [hit] at hr1 hr4
        have hR2 : lnsA [] t.data.toList = pre ++ it :: lnsA [] r := by rw [hR, hr1]
        refine Cfg.begA rfl (by kernel_rfl) ([] ++ (A x ++ [])) ?_
        refine CfgA.pure [1, 2, 5, 6] [] (some [0, 1, 14, 18]) (l' := #[false, true, true, false, false, true, true, false, false, false]) (by kernel_rfl) (by kernel_rfl) (.cons _ (List.Sublist.refl _)) 6 rfl (Γ' := [(18, [], .int .i64 ((Lib.indexByte rem 10) + 1)), (14, [], .int .i64 ((Lib.indexByte rem 10) + 1)), (0, [], .func (.yield l) #[] #[]), (1, [], .pointer (some ⟨tb, 0, none⟩))]) (nd := (fun _ => [((-9223372036854775808 : Int) ≤ ((Lib.indexByte rem 10) + 1) ∧ ((Lib.indexByte rem 10) + 1) ≤ 9223372036854775807), ((-9223372036854775808 : Int) ≤ ((Lib.indexByte rem 10) + 1) ∧ ((Lib.indexByte rem 10) + 1) ≤ 9223372036854775807)])) (fun _ => by kernel_rfl) ⟨(by omega), (by omega), trivial⟩ ?_
        refine CfgA.two 0 4 (by kernel_rfl) (fuel' := 5) rfl ?_ ?_
        ·
          refine CfgI.eff (o := _) rfl (by kernel_rfl) (by kernel_rfl) (Eff.quiet (raw := false) (orc := some (.string (tx rem))) (v := .string (tx rem)) (nd := (fun S => [(∀ w1, S w1 → w1.cell? ⟨tb, 0, none⟩ = some (.string (tx rem)))])) (fun _ => by kernel_rfl) ⟨(fun w1 h => h.ocell 0 rfl rfl), trivial⟩ (by kernel_rfl)) (fun _ _ => (.cons _ (List.Sublist.refl _))) ?_
          rintro ⟨⟩ -
          refine CfgA.pure [3, 8] [] (some [0, 1, 3, 18]) (l' := #[true, true, true, true, false, true, true, false, true, false]) (by kernel_rfl) (by kernel_rfl) (.cons _ (List.Sublist.refl _)) 3 rfl (Γ' := [(3, [], .string ((tx rem).extract 0 ((((Lib.indexByte rem 10) + 1)).toNat))), (18, [], .int .i64 ((Lib.indexByte rem 10) + 1)), (0, [], .func (.yield l) #[] #[]), (1, [], .pointer (some ⟨tb, 0, none⟩))]) (nd := (fun _ => [(0 ≤ ((Lib.indexByte rem 10) + 1)), (0 ≤ (((Lib.indexByte rem 10) + 1)).toNat ∧ (((Lib.indexByte rem 10) + 1)).toNat ≤ (tx rem).size)])) (fun _ => by kernel_rfl) ⟨(by omega), (by (try rw [tx_size]); omega), trivial⟩ ?_
          refine CfgA.eff 4 (o := _) rfl (by kernel_rfl) (fuel' := 2) rfl (by kernel_rfl) (by kernel_rfl) (Eff.quiet (raw := false) (orc := some (.string (tx rem))) (v := .string (tx rem)) (nd := (fun S => [(∀ w1, S w1 → w1.cell? ⟨tb, 0, none⟩ = some (.string (tx rem)))])) (fun _ => by kernel_rfl) ⟨(fun w1 h => h.ocell 0 rfl rfl), trivial⟩ (by kernel_rfl)) (fun _ _ => (.cons _ (List.Sublist.refl _))) ?_
          rintro ⟨⟩ -
          refine CfgA.pure [7] [] (some [0, 1, 3, 19]) (l' := #[true, true, true, true, true, true, true, true, true, false]) (by kernel_rfl) (by kernel_rfl) (.cons _ (List.Sublist.refl _)) 1 rfl (Γ' := [(19, [], .string ((tx rem).extract ((((Lib.indexByte rem 10) + 1)).toNat) ((tx rem).size))), (3, [], .string ((tx rem).extract 0 ((((Lib.indexByte rem 10) + 1)).toNat))), (0, [], .func (.yield l) #[] #[]), (1, [], .pointer (some ⟨tb, 0, none⟩))]) (nd := (fun _ => [(0 ≤ ((Lib.indexByte rem 10) + 1)), ((((Lib.indexByte rem 10) + 1)).toNat ≤ (tx rem).size ∧ (tx rem).size ≤ (tx rem).size)])) (fun _ => by kernel_rfl) ⟨(by omega), (by (try rw [tx_size]); omega), trivial⟩ ?_
          refine CfgA.eff 9 (o := _) rfl (by kernel_rfl) (fuel' := 0) rfl (by kernel_rfl) (by kernel_rfl) (Eff.store1 (b := tb) (off := 0) (v := .string ((tx rem).extract ((((Lib.indexByte rem 10) + 1)).toNat) ((tx rem).size))) rfl (by kernel_rfl) (by kernel_rfl) rfl (by kernel_rfl) 0 (cs := #[.string (tx rem)]) (e := 9) (by kernel_rfl) (by simp)) (fun _ _ => (.cons _ (List.Sublist.refl _))) ?_
          rintro ⟨⟩ -
          refine CfgA.done (by kernel_rfl) ?_
          refine Conv.cfg (Γ' := [(3, [], .string ((tx rem).extract 0 ((((Lib.indexByte rem 10) + 1)).toNat))), (0, [], .func (.yield l) #[] #[]), (1, [], .pointer (some ⟨tb, 0, none⟩))]) (Conv.mk (by kernel_rfl)) ?_
          refine Cfg.setG (Γ' := [(3, [], .string (tx it)), (0, [], .func (.yield l) #[] #[]), (1, [], .pointer (some ⟨tb, 0, none⟩))]) (congrArg (fun (xq : ByteArray) => ([(3, [], .string xq), (0, [], .func (.yield l) #[] #[]), (1, [], .pointer (some ⟨tb, 0, none⟩))] : Env)) (by rw [ext0, tx_list, show (Lib.indexByte rem 10 + 1).toNat = (rem.takeWhile ne10).length + 1 by omega, hr4])) ?_
          refine Cfg.setO (O' := ([(tb, .cells #[.string (tx r)] 9 (0, 0))] ++ (A x ++ []))) (congrArg (fun (xq : Array Value) => (([(tb, .cells xq 9 (0, 0))] ++ (A x ++ [])) : List (Nat × Obj))) (by rw [ext_tx, tx_list, tx_size, show (Lib.indexByte rem 10 + 1).toNat = (rem.takeWhile ne10).length + 1 by omega, ← hr3, List.take_of_length_le (by omega)]; rfl)) ?_
          refine Cfg.begL rfl ?_
          refine CfgL.pure 2 [] (some [0, 1, 21, 22]) (Γ' := [(22, [], .string (tx it)), (21, [], .func (.yield l) #[] #[]), (0, [], .func (.yield l) #[] #[]), (1, [], .pointer (some ⟨tb, 0, none⟩))]) (nd := (fun _ => [])) (by kernel_rfl) (fun _ => by kernel_rfl) trivial ?_
          refine CfgL.effI (o := _) rfl (by kernel_rfl) (by kernel_rfl) (EffI.yield (ι := σ) (vs := [.string (tx it)]) (fun _ => .bool (p it)) (A x) (fun y => A y) (fun y => J (pre ++ [it]) y) [(tb, .cells #[.string (tx r)] 9 (0, 0))] [] rfl rfl (by kernel_rfl) (by kernel_rfl) hps.symm (hmem pre x hal hJx) (fun w1 hh hdn => hy pre x it _ hal hJx hR2 w1 hh hdn)) ?_
          rintro y hJy
          refine CfgL.pure 1 [] (some [0, 1, 24]) (Γ' := [(24, [], .bool (!(p it))), (0, [], .func (.yield l) #[] #[]), (1, [], .pointer (some ⟨tb, 0, none⟩))]) (nd := (fun _ => [])) (by kernel_rfl) (fun _ => by kernel_rfl) trivial ?_
          refine CfgL.done rfl ?_
          refine Cfg.cond rfl (b := (!(p it))) (by kernel_rfl) (fun c3r => ?_) (fun c3r => ?_)
          · have c3 : ((p it) = false) := (notT c3r)
            refine Cfg.ret rfl (rs := []) rfl [] trivial (fun w1 hp => ?_)
            have hv : vis p (lnsA [] t.data.toList) = pre ++ [it] := by rw [hR2]; exact vis_stop hal (by simpa using c3r)
            rw [hv]
            have h3 : HP w (((tb, Obj.cells #[.string t] 9 (0, 0)) :: A s0).map (·.1)) [] ([(tb, Obj.cells #[.string (tx r)] 9 (0, 0))] ++ (A y ++ [])) w1 := hp
            rw [List.append_nil] at h3
            exact ⟨y, hJy, rfl, _, _, h3⟩
          · have c3 : ((p it) = true) := (notF c3r)
            refine Cfg.again rfl (r, pre ++ [it], y) ⟨by omega, by rw [hR2, List.append_assoc]; rfl, fun x hx => by rcases List.mem_append.1 hx with hx | hx; exact hal x hx; rw [List.mem_singleton.1 hx]; simpa using c3r, hJy⟩ (by show r.length < rem.length; omega) (Conv.mk (by kernel_rfl)) (.cons_cons _ (List.Sublist.refl _))
        ·
          refine CfgI.eff (o := _) rfl (by kernel_rfl) (by kernel_rfl) (Eff.quiet (raw := false) (orc := some (.string (tx rem))) (v := .string (tx rem)) (nd := (fun S => [(∀ w1, S w1 → w1.cell? ⟨tb, 0, none⟩ = some (.string (tx rem)))])) (fun _ => by kernel_rfl) ⟨(fun w1 h => h.ocell 0 rfl rfl), trivial⟩ (by kernel_rfl)) (fun _ _ => (.cons _ (List.Sublist.refl _))) ?_
          rintro ⟨⟩ -
          refine CfgA.pure [7] [] (some [0, 1, 14, 19]) (l' := #[false, true, true, false, true, true, true, true, false, false]) (by kernel_rfl) (by kernel_rfl) (.cons _ (List.Sublist.refl _)) 4 rfl (Γ' := [(19, [], .string ((tx rem).extract ((((Lib.indexByte rem 10) + 1)).toNat) ((tx rem).size))), (14, [], .int .i64 ((Lib.indexByte rem 10) + 1)), (0, [], .func (.yield l) #[] #[]), (1, [], .pointer (some ⟨tb, 0, none⟩))]) (nd := (fun _ => [(0 ≤ ((Lib.indexByte rem 10) + 1)), ((((Lib.indexByte rem 10) + 1)).toNat ≤ (tx rem).size ∧ (tx rem).size ≤ (tx rem).size)])) (fun _ => by kernel_rfl) ⟨(by omega), (by (try rw [tx_size]); omega), trivial⟩ ?_
          refine CfgA.eff 0 (o := _) rfl (by kernel_rfl) (fuel' := 3) rfl (by kernel_rfl) (by kernel_rfl) (Eff.quiet (raw := false) (orc := some (.string (tx rem))) (v := .string (tx rem)) (nd := (fun S => [(∀ w1, S w1 → w1.cell? ⟨tb, 0, none⟩ = some (.string (tx rem)))])) (fun _ => by kernel_rfl) ⟨(fun w1 h => h.ocell 0 rfl rfl), trivial⟩ (by kernel_rfl)) (fun _ _ => (.cons _ (List.Sublist.refl _))) ?_
          rintro ⟨⟩ -
          refine CfgA.pure [3, 8] [] (some [0, 1, 3, 19]) (l' := #[true, true, true, true, true, true, true, true, true, false]) (by kernel_rfl) (by kernel_rfl) (.cons _ (List.Sublist.refl _)) 1 rfl (Γ' := [(3, [], .string ((tx rem).extract 0 ((((Lib.indexByte rem 10) + 1)).toNat))), (19, [], .string ((tx rem).extract ((((Lib.indexByte rem 10) + 1)).toNat) ((tx rem).size))), (0, [], .func (.yield l) #[] #[]), (1, [], .pointer (some ⟨tb, 0, none⟩))]) (nd := (fun _ => [(0 ≤ ((Lib.indexByte rem 10) + 1)), (0 ≤ (((Lib.indexByte rem 10) + 1)).toNat ∧ (((Lib.indexByte rem 10) + 1)).toNat ≤ (tx rem).size)])) (fun _ => by kernel_rfl) ⟨(by omega), (by (try rw [tx_size]); omega), trivial⟩ ?_
          refine CfgA.eff 9 (o := _) rfl (by kernel_rfl) (fuel' := 0) rfl (by kernel_rfl) (by kernel_rfl) (Eff.store1 (b := tb) (off := 0) (v := .string ((tx rem).extract ((((Lib.indexByte rem 10) + 1)).toNat) ((tx rem).size))) rfl (by kernel_rfl) (by kernel_rfl) rfl (by kernel_rfl) 0 (cs := #[.string (tx rem)]) (e := 9) (by kernel_rfl) (by simp)) (fun _ _ => (.cons _ (List.Sublist.refl _))) ?_
          rintro ⟨⟩ -
          refine CfgA.done (by kernel_rfl) ?_
          refine Conv.cfg (Γ' := [(3, [], .string ((tx rem).extract 0 ((((Lib.indexByte rem 10) + 1)).toNat))), (0, [], .func (.yield l) #[] #[]), (1, [], .pointer (some ⟨tb, 0, none⟩))]) (Conv.mk (by kernel_rfl)) ?_
          refine Cfg.setG (Γ' := [(3, [], .string (tx it)), (0, [], .func (.yield l) #[] #[]), (1, [], .pointer (some ⟨tb, 0, none⟩))]) (congrArg (fun (xq : ByteArray) => ([(3, [], .string xq), (0, [], .func (.yield l) #[] #[]), (1, [], .pointer (some ⟨tb, 0, none⟩))] : Env)) (by rw [ext0, tx_list, show (Lib.indexByte rem 10 + 1).toNat = (rem.takeWhile ne10).length + 1 by omega, hr4])) ?_
          refine Cfg.setO (O' := ([(tb, .cells #[.string (tx r)] 9 (0, 0))] ++ (A x ++ []))) (congrArg (fun (xq : Array Value) => (([(tb, .cells xq 9 (0, 0))] ++ (A x ++ [])) : List (Nat × Obj))) (by rw [ext_tx, tx_list, tx_size, show (Lib.indexByte rem 10 + 1).toNat = (rem.takeWhile ne10).length + 1 by omega, ← hr3, List.take_of_length_le (by omega)]; rfl)) ?_
          refine Cfg.begL rfl ?_
          refine CfgL.pure 2 [] (some [0, 1, 21, 22]) (Γ' := [(22, [], .string (tx it)), (21, [], .func (.yield l) #[] #[]), (0, [], .func (.yield l) #[] #[]), (1, [], .pointer (some ⟨tb, 0, none⟩))]) (nd := (fun _ => [])) (by kernel_rfl) (fun _ => by kernel_rfl) trivial ?_
          refine CfgL.effI (o := _) rfl (by kernel_rfl) (by kernel_rfl) (EffI.yield (ι := σ) (vs := [.string (tx it)]) (fun _ => .bool (p it)) (A x) (fun y => A y) (fun y => J (pre ++ [it]) y) [(tb, .cells #[.string (tx r)] 9 (0, 0))] [] rfl rfl (by kernel_rfl) (by kernel_rfl) hps.symm (hmem pre x hal hJx) (fun w1 hh hdn => hy pre x it _ hal hJx hR2 w1 hh hdn)) ?_
          rintro y hJy
          refine CfgL.pure 1 [] (some [0, 1, 24]) (Γ' := [(24, [], .bool (!(p it))), (0, [], .func (.yield l) #[] #[]), (1, [], .pointer (some ⟨tb, 0, none⟩))]) (nd := (fun _ => [])) (by kernel_rfl) (fun _ => by kernel_rfl) trivial ?_
          refine CfgL.done rfl ?_
          refine Cfg.cond rfl (b := (!(p it))) (by kernel_rfl) (fun c4r => ?_) (fun c4r => ?_)
          · have c4 : ((p it) = false) := (notT c4r)
            refine Cfg.ret rfl (rs := []) rfl [] trivial (fun w1 hp => ?_)
            have hv : vis p (lnsA [] t.data.toList) = pre ++ [it] := by rw [hR2]; exact vis_stop hal (by simpa using c4r)
            rw [hv]
            have h3 : HP w (((tb, Obj.cells #[.string t] 9 (0, 0)) :: A s0).map (·.1)) [] ([(tb, Obj.cells #[.string (tx r)] 9 (0, 0))] ++ (A y ++ [])) w1 := hp
            rw [List.append_nil] at h3
            exact ⟨y, hJy, rfl, _, _, h3⟩
          · have c4 : ((p it) = true) := (notF c4r)
            refine Cfg.again rfl (r, pre ++ [it], y) ⟨by omega, by rw [hR2, List.append_assoc]; rfl, fun x hx => by rcases List.mem_append.1 hx with hx | hx; exact hal x hx; rw [List.mem_singleton.1 hx]; simpa using c4r, hJy⟩ (by show r.length < rem.length; omega) (Conv.mk (by kernel_rfl)) (.cons_cons _ (List.Sublist.refl _))
      · have c2 : (¬ ((Lib.indexByte rem 10) ≥ (0 : Int))) := (of_decide_eq_false c2r)
        have hr9 := last_10 (single_10 hrn (by omega)) hrn
        obtain ⟨it, hit⟩ : ∃ it, it = rem := ⟨_, rfl⟩
        obtain ⟨r, hr5⟩ : ∃ r : List UInt8, r = [] := ⟨_, rfl⟩
        have hr1 : lnsA [] rem = [it] := by rw [hr9, hit]
        have hrl : r.length < rem.length := by rw [hr5]; exact List.length_pos_iff.2 hrn
        have hrk := List.length_pos_iff.2 hrn
        have hR2 : lnsA [] t.data.toList = pre ++ it :: lnsA [] r := by rw [hR, hr1, hr5]; rfl
        refine Cfg.begL rfl ?_
        refine CfgL.pure 2 [(0, false, some (.string (tx rem)))] (some [0, 1, 3]) (Γ' := [(3, [], .string (tx rem)), (0, [], .func (.yield l) #[] #[]), (1, [], .pointer (some ⟨tb, 0, none⟩))]) (nd := (fun S => [(∀ w1, S w1 → w1.cell? ⟨tb, 0, none⟩ = some (.string (tx rem)))])) (by kernel_rfl) (fun _ => by kernel_rfl) ⟨(fun w1 h => h.ocell 0 rfl rfl), trivial⟩ ?_
        refine CfgL.eff (o := _) rfl (by kernel_rfl) (by kernel_rfl) (Eff.store1 (b := tb) (off := 0) (v := .string ⟨#[]⟩) rfl (by kernel_rfl) (by kernel_rfl) rfl (by kernel_rfl) 0 (cs := #[.string (tx rem)]) (e := 9) (by kernel_rfl) (by simp)) ?_
        rintro ⟨⟩ -
        refine CfgL.done rfl ?_
        refine Cfg.setG (Γ' := [(3, [], .string (tx it)), (0, [], .func (.yield l) #[] #[]), (1, [], .pointer (some ⟨tb, 0, none⟩))]) (congrArg (fun (xq : ByteArray) => ([(3, [], .string xq), (0, [], .func (.yield l) #[] #[]), (1, [], .pointer (some ⟨tb, 0, none⟩))] : Env)) (by rw [hit])) ?_
        refine Cfg.setO (O' := ([(tb, .cells #[.string (tx r)] 9 (0, 0))] ++ (A x ++ []))) (congrArg (fun (xq : Array Value) => (([(tb, .cells xq 9 (0, 0))] ++ (A x ++ [])) : List (Nat × Obj))) (by rw [hr5]; rfl)) ?_
        refine Cfg.begL rfl ?_
        refine CfgL.pure 2 [] (some [0, 1, 21, 22]) (Γ' := [(22, [], .string (tx it)), (21, [], .func (.yield l) #[] #[]), (0, [], .func (.yield l) #[] #[]), (1, [], .pointer (some ⟨tb, 0, none⟩))]) (nd := (fun _ => [])) (by kernel_rfl) (fun _ => by kernel_rfl) trivial ?_
        refine CfgL.effI (o := _) rfl (by kernel_rfl) (by kernel_rfl) (EffI.yield (ι := σ) (vs := [.string (tx it)]) (fun _ => .bool (p it)) (A x) (fun y => A y) (fun y => J (pre ++ [it]) y) [(tb, .cells #[.string (tx r)] 9 (0, 0))] [] rfl rfl (by kernel_rfl) (by kernel_rfl) hps.symm (hmem pre x hal hJx) (fun w1 hh hdn => hy pre x it _ hal hJx hR2 w1 hh hdn)) ?_
        rintro y hJy
        refine CfgL.pure 1 [] (some [0, 1, 24]) (Γ' := [(24, [], .bool (!(p it))), (0, [], .func (.yield l) #[] #[]), (1, [], .pointer (some ⟨tb, 0, none⟩))]) (nd := (fun _ => [])) (by kernel_rfl) (fun _ => by kernel_rfl) trivial ?_
        refine CfgL.done rfl ?_
        refine Cfg.cond rfl (b := (!(p it))) (by kernel_rfl) (fun c5r => ?_) (fun c5r => ?_)
        · have c5 : ((p it) = false) := (notT c5r)
          refine Cfg.ret rfl (rs := []) rfl [] trivial (fun w1 hp => ?_)
          have hv : vis p (lnsA [] t.data.toList) = pre ++ [it] := by rw [hR2]; exact vis_stop hal (by simpa using c5r)
          rw [hv]
          have h3 : HP w (((tb, Obj.cells #[.string t] 9 (0, 0)) :: A s0).map (·.1)) [] ([(tb, Obj.cells #[.string (tx r)] 9 (0, 0))] ++ (A y ++ [])) w1 := hp
          rw [List.append_nil] at h3
          exact ⟨y, hJy, rfl, _, _, h3⟩
        · have c5 : ((p it) = true) := (notF c5r)
          refine Cfg.again rfl (r, pre ++ [it], y) ⟨by omega, by rw [hR2, List.append_assoc]; rfl, fun x hx => by rcases List.mem_append.1 hx with hx | hx; exact hal x hx; rw [List.mem_singleton.1 hx]; simpa using c5r, hJy⟩ (by show r.length < rem.length; omega) (Conv.mk (by kernel_rfl)) (.cons_cons _ (List.Sublist.refl _))
    · have c1 : (¬ (((tx rem).size : Int) > (0 : Int))) := (of_decide_eq_false c1r)
      have hr0 : rem = [] := List.eq_nil_of_length_eq_zero (by rw [tx_size] at c1; omega)
      refine Cfg.fin rfl (rs := []) rfl [] trivial (fun w1 hp => ?_)
      have hv : vis p (lnsA [] t.data.toList) = pre := by rw [hR, hr0, show lnsA [] [] = [] from rfl, List.append_nil, vis_all hal]
      rw [hv]
      have h3 : HP w (((tb, Obj.cells #[.string t] 9 (0, 0)) :: A s0).map (·.1)) [] ([(tb, Obj.cells #[.string (tx rem)] 9 (0, 0))] ++ (A x ++ [])) w1 := hp
      rw [List.append_nil] at h3
      exact ⟨x, hJx, rfl, _, _, h3⟩

theorem linesIt (tb : Nat) (t : ByteArray) (hn : t.size ≤ maxLen) : IterSpecB Tryd.prog 24 #[.pointer (some ⟨tb, 0, none⟩)] tb (.cells #[.string t] 9 (0, 0)) (lnsA [] t.data.toList) (fun (x : List UInt8) => Value.string (tx x)) :=
  fun l dr fi T ps assign body σ A J s0 p w hps hJ hA hd hmem hy => linesIt0 l dr tb fi T ps assign body t σ A J s0 p w hn hps hJ hA hd hmem hy

set_option maxRecDepth 100000 in
theorem sLines (t : ByteArray) (w : World) :
    Calls Tryd.prog 18 #[.string t] w fun e w' => ∃ tb : Nat, True ∧ e = .returned (.func (.func 24) #[] #[.pointer (some ⟨tb, 0, none⟩)]) ∧ w.heap.size ≤ tb ∧ w'.heap[tb]? = some (.cells #[.string t] 9 (0, 0)) ∧ Ext [] w w' := by
  refine enter (vs := [.string t]) [] [] [] Tryd.func18 rfl (by kernel_rfl) (HP.start w) ?_
  refine Cfg.begL rfl ?_
  refine CfgL.eff (o := _) rfl (by kernel_rfl) (by kernel_rfl) (Eff.box (v := .string t) rfl (by kernel_rfl)) ?_
  rintro tb ⟨htb, ntb⟩
  refine CfgL.pure 1 [] (some [1]) (Γ' := [(1, [], .pointer (some ⟨tb, 0, none⟩))]) (nd := (fun _ => [])) (by kernel_rfl) (fun _ => by kernel_rfl) trivial ?_
  refine CfgL.done rfl ?_
  refine Cfg.reg rfl [2] [] (Γ' := [(2, [], .func (.func 24) #[] #[.pointer (some ⟨tb, 0, none⟩)])]) (nd := (fun _ => [])) (fun _ => by kernel_rfl) trivial ?_
  refine Cfg.ret rfl (rs := [.tmp 2]) rfl [.func (.func 24) #[] #[.pointer (some ⟨tb, 0, none⟩)]] ⟨by kernel_rfl, trivial⟩ (fun w1 hp => ?_)
  exact ⟨tb, trivial, rfl, htb, hp.own (tb, _) (List.mem_cons_self ..), hp.ext⟩

end Go.Proofs.YtoopekjbikcebaaDoor
