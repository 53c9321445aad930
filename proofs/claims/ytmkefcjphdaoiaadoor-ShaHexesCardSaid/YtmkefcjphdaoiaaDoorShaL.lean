/- sha.Less tells the order of digests. Condition: a digest is 32 bytes. -/
import Derived.Test.YtmkefcjphdaoiaaDoorName4
import Derived.Test.YtmkefcjphdaoiaaDoorK12
namespace Go.Proofs.YtmkefcjphdaoiaaDoor
open K
set_option linter.unusedVariables false

/-! What a file's name is, byte by byte. -/
theorem baToList (s : ByteArray) : s.toList = s.data.toList := Go.ByteArray.toList_eq s
theorem fileS_list (c : UInt8) (l : List UInt8) : (fileS c l).data.toList = c :: 46 :: hexL l := by
  unfold fileS hexS
  rw [ByteArray.data_append]
  simp
theorem fileS_ext (c : UInt8) (l : List UInt8) : (fileS c l).extract 2 (fileS c l).size = hexS l := by
  apply ByteArray.ext
  apply Array.ext'
  rw [ByteArray.data_extract, Array.toList_extract, List.extract_eq_take_drop, fileS_list]
  simp only [List.drop_succ_cons, List.drop_zero, hexS]
  refine List.take_of_length_le ?_
  have : (fileS c l).size = (hexL l).length + 2 := by
    show (fileS c l).data.size = _
    rw [← Array.length_toList, fileS_list]; rfl
  omega
theorem sbyte_cons (s : ByteArray) (k : Nat) : sbyte s (k : Int) = ((s.data.toList.getD k 0).toNat : Int) := rfl
theorem hexD_dig (n : Nat) (h : n < 16) : digB (hexD n) = true ∧ digV (hexD n) = n := by
  exact (by decide +kernel : ∀ m : Fin 16, digB (hexD m.val) = true ∧ digV (hexD m.val) = (m.val : Int)) ⟨n, h⟩
theorem hexD_nm (n : Nat) (h : n < 16) : 48 ≤ (hexD n).toNat ∧ (hexD n).toNat ≤ 102 := by
  exact (by decide +kernel : ∀ m : Fin 16, 48 ≤ (hexD m.val).toNat ∧ (hexD m.val).toNat ≤ 102) ⟨n, h⟩
theorem hexL_even (l : List UInt8) : ∀ (i : Nat), i < l.length → (hexL l).getD (2 * i) 0 = hexD ((l.getD i 0).toNat / 16) ∧ (hexL l).getD (2 * i + 1) 0 = hexD ((l.getD i 0).toNat % 16) := by
  induction l with
  | nil => intro i h; simp at h
  | cons x l ih =>
    intro i h
    have e : hexL (x :: l) = hexD (x.toNat / 16) :: hexD (x.toNat % 16) :: hexL l := rfl
    cases i with
    | zero => rw [e]; exact ⟨rfl, rfl⟩
    | succ i =>
      have := ih i (by simpa using h)
      rw [e, show 2 * (i + 1) = 2 * i + 1 + 1 by omega]
      simpa using this
theorem bt_hex {l : List UInt8} {j : Nat} (h : j < 2 * l.length) : ∃ n, n < 16 ∧ bt (hexS l) j = hexD n := by
  have h1 := byte_lt (l.getD (j / 2) 0)
  have h2 := hexL_even l (j / 2) (by omega)
  rcases Nat.mod_two_eq_zero_or_one j with hh | hh
  · rw [show 2 * (j / 2) = j by omega] at h2
    exact ⟨_, by omega, h2.1⟩
  · rw [show 2 * (j / 2) + 1 = j by omega] at h2
    exact ⟨(l.getD (j / 2) 0).toNat % 16, by omega, h2.2⟩
theorem parB_hex {l : List UInt8} (hl : l.length = 32) : parB (hexS l) = true := by
  unfold parB
  rw [hexS_size hl, decide_eq_true rfl, all_yes (fun j hj => by
    obtain ⟨n, hn, he⟩ := bt_hex (l := l) (j := j) (by omega)
    rw [he]; exact (hexD_dig n hn).1)]
  rfl
theorem parL_hex {l : List UInt8} (hl : l.length = 32) : parL (hexS l) = l := by
  unfold parL
  rw [if_pos (parB_hex hl)]
  apply List.ext_getElem?
  intro i
  by_cases hi : i < 32
  · have hb := byte_lt (l.getD i 0)
    have h2 := hexL_even l i (by omega)
    have e : hpb (hexS l) 64 i = (l.getD i 0).toNat := by
      unfold hpb
      rw [if_pos (by omega)]
      have e1 : hv (hexS l) (2 * i) = (l.getD i 0).toNat / 16 := by
        show (digV ((hexL l).getD (2 * i) 0)).toNat = _
        rw [h2.1, (hexD_dig _ (by omega)).2]; rfl
      have e2 : hv (hexS l) (2 * i + 1) = (l.getD i 0).toNat % 16 := by
        show (digV ((hexL l).getD (2 * i + 1) 0)).toNat = _
        rw [h2.2, (hexD_dig _ (by omega)).2]; rfl
      rw [e1, e2]; omega
    simp only [parRow, List.getElem?_map, List.getElem?_range hi, Option.map_some, e]
    rw [List.getD_eq_getElem?_getD, List.getElem?_eq_getElem (show i < l.length by omega)]
    simp
  · rw [List.getElem?_eq_none (by rw [parRow_len]; omega), List.getElem?_eq_none (by omega)]
theorem less_none : ∀ {a b : List UInt8}, a = b → Op.bytesLess a b = false
  | [], _, h => by subst h; rfl
  | x :: a, _, h => by
    subst h
    simp only [Op.bytesLess, less_none (a := a) rfl, Bool.and_false, Bool.or_false, decide_eq_false_iff_not]
    exact UInt8.lt_irrefl x
theorem less_first : ∀ {a b : List UInt8} {i : Nat}, a.length = b.length → i < a.length → (∀ j, j < i → a.getD j 0 = b.getD j 0) → a.getD i 0 ≠ b.getD i 0 → Op.bytesLess a b = decide (((a.getD i 0).toNat : Int) < ((b.getD i 0).toNat : Int))
  | [], _, i, _, hi, _, _ => by simp at hi
  | x :: a, [], _, hl, _, _, _ => by simp at hl
  | x :: a, y :: b, 0, _, _, _, hne => by
    simp only [List.getD_cons_zero] at hne
    simp only [Op.bytesLess, List.getD_cons_zero, beq_eq_false_iff_ne.2 hne, Bool.false_and, Bool.or_false, UInt8.lt_iff_toNat_lt, Int.ofNat_lt]
  | x :: a, y :: b, i + 1, hl, hi, hj, hne => by
    have h0 := hj 0 (by omega)
    simp only [List.getD_cons_zero] at h0
    subst h0
    have ih := less_first (a := a) (b := b) (i := i) (by simpa using hl) (by simpa using hi) (fun j h => by have := hj (j + 1) (by omega); simpa using this) (by simpa using hne)
    simp only [Op.bytesLess, List.getD_cons_succ, beq_self_eq_true, Bool.true_and, ih, decide_eq_false (UInt8.lt_irrefl x), Bool.false_or]
theorem eq_all {a b : List UInt8} (hl : a.length = 32) (hb : b.length = 32) (h : ∀ j, j < 32 → a.getD j 0 = b.getD j 0) : a = b := by
  apply List.ext_getElem?
  intro i
  by_cases hi : i < 32
  · have := h i hi
    rw [List.getD_eq_getElem?_getD, List.getD_eq_getElem?_getD, List.getElem?_eq_getElem (show i < a.length by omega), List.getElem?_eq_getElem (show i < b.length by omega)] at this
    rw [List.getElem?_eq_getElem (show i < a.length by omega), List.getElem?_eq_getElem (show i < b.length by omega)]
    simpa using this
  · rw [List.getElem?_eq_none (by omega), List.getElem?_eq_none (by omega)]
theorem hexD_mono (m n : Nat) (hm : m < 16) (hn : n < 16) : decide (hexD m < hexD n) = decide (m < n) ∧ (hexD m == hexD n) = (m == n) := by
  exact (by decide +kernel : ∀ m n : Fin 16, decide (hexD m.val < hexD n.val) = decide (m.val < n.val) ∧ (hexD m.val == hexD n.val) = (m.val == n.val)) ⟨m, hm⟩ ⟨n, hn⟩
theorem hex_less : ∀ {a b : List UInt8}, a.length = b.length → Op.bytesLess (hexL a) (hexL b) = Op.bytesLess a b
  | [], [], _ => rfl
  | [], _ :: _, h => by simp at h
  | _ :: _, [], h => by simp at h
  | x :: a, y :: b, h => by
    have ih := hex_less (a := a) (b := b) (by simpa using h)
    have hx := byte_lt x
    have hy := byte_lt y
    have m1 := hexD_mono (x.toNat / 16) (y.toNat / 16) (by omega) (by omega)
    have m2 := hexD_mono (x.toNat % 16) (y.toNat % 16) (by omega) (by omega)
    show Op.bytesLess (hexD (x.toNat / 16) :: hexD (x.toNat % 16) :: hexL a) (hexD (y.toNat / 16) :: hexD (y.toNat % 16) :: hexL b) = _
    simp only [Op.bytesLess, m1.1, m1.2, m2.1, m2.2, ih]
    generalize Op.bytesLess a b = r
    rw [Bool.eq_iff_iff]
    simp only [Bool.or_eq_true, Bool.and_eq_true, decide_eq_true_eq, beq_iff_eq, UInt8.lt_iff_toNat_lt, ← UInt8.toNat_inj]
    cases r <;> simp <;> omega
theorem cmpL_less {a b : List UInt8} (ha : a.length = 32) (hb : b.length = 32) : (decide (cmpL a b < (0 : Int))) = Op.bytesLess a b := by
  have hsa : (⟨a.toArray⟩ : ByteArray).size = 32 := by simp [ByteArray.size, ha]
  have hsb : (⟨b.toArray⟩ : ByteArray).size = 32 := by simp [ByteArray.size, hb]
  unfold cmpL Extern.BytealgCompare.cmp
  simp only [hsa, hsb, at_row, Nat.min_self]
  split
  · rename_i i hf
    obtain ⟨h1, h2, h3⟩ := List.find?_range_eq_some.1 hf
    have hi : i < 32 := List.mem_range.1 h2
    rw [less_first (a := a) (b := b) (i := i) (ha.trans hb.symm) (by omega) (fun j hj => by simpa using h3 j hj) (by simpa using h1)]
    by_cases hlt : a.getD i 0 < b.getD i 0
    · have := UInt8.lt_iff_toNat_lt.1 hlt
      simp only [if_pos hlt]
      exact (decide_eq_true (show (-1 : Int) < 0 by omega)).trans (decide_eq_true (show ((a.getD i 0).toNat : Int) < ((b.getD i 0).toNat : Int) by omega)).symm
    · have : ¬ (a.getD i 0).toNat < (b.getD i 0).toNat := fun h => hlt (UInt8.lt_iff_toNat_lt.2 h)
      simp only [if_neg hlt]
      exact (decide_eq_false (show ¬ (1 : Int) < 0 by omega)).trans (decide_eq_false (show ¬ ((a.getD i 0).toNat : Int) < ((b.getD i 0).toNat : Int) by omega)).symm
  · rename_i hf
    have := List.find?_range_eq_none.1 hf
    rw [less_none (eq_all ha hb fun j hj => by simpa using this j hj)]
    rfl
theorem compare32 {P : Program} {w : World} {x y : Nat} {t t' : TypeId} {fr fr' : Nat × Nat} {a b : List UInt8} (ha : a.length = 32) (hb : b.length = 32) (hx : w.heap[x]? = some (.cells (bv a) t fr)) (hy : w.heap[y]? = some (.cells (bv b) t' fr')) :
    (Extern.BytealgCompare.compare #[.slice (some ⟨x, 0, none⟩) 32 32, .slice (some ⟨y, 0, none⟩) 32 32]).run P w = .ok (.int .i64 (cmpL a b)) w := by
  have := run_compare (P := P) (c := 32) (c' := 32) hx hy
  rw [ha, hb] at this; exact this
theorem dig_back (c : UInt8) (h : digB c = true) : hexD (digV c).toNat = c := by
  have := (by decide +kernel : ∀ n : Fin 256, digB (UInt8.ofNat n.val) = true → hexD (digV (UInt8.ofNat n.val)).toNat = UInt8.ofNat n.val) ⟨c.toNat, byte_lt c⟩
  simp only [UInt8.ofNat_toNat] at this
  exact this h
theorem hex_par {s : ByteArray} (h : parB s = true) : hexS (parL s) = s := by
  have h' := h
  unfold parB at h'
  simp only [Bool.and_eq_true, decide_eq_true_eq, List.all_eq_true, List.mem_range] at h'
  obtain ⟨h1, h2⟩ := h'
  have hs : s.data.toList.length = 64 := by rw [← h1]; simp
  unfold parL
  rw [if_pos h]
  apply ByteArray.ext
  apply Array.ext'
  show hexL (parRow s 64) = s.data.toList
  have hl := parRow_len s 64
  have key : ∀ i, i < 32 → hexD (((parRow s 64).getD i 0).toNat / 16) = bt s (2 * i) ∧ hexD (((parRow s 64).getD i 0).toNat % 16) = bt s (2 * i + 1) := by
    intro i hi
    have v1 := hv_lt s (2 * i)
    have v2 := hv_lt s (2 * i + 1)
    rw [parRow_get s 64 i hi, show hpb s 64 i = 16 * hv s (2 * i) + hv s (2 * i + 1) by unfold hpb; rw [if_pos (by omega)]]
    rw [show (16 * hv s (2 * i) + hv s (2 * i + 1)) / 16 = hv s (2 * i) by omega, show (16 * hv s (2 * i) + hv s (2 * i + 1)) % 16 = hv s (2 * i + 1) by omega]
    exact ⟨dig_back _ (h2 _ (by omega)), dig_back _ (h2 _ (by omega))⟩
  apply List.ext_getElem?
  intro j
  by_cases hj : j < 64
  · have hlx : (hexL (parRow s 64)).length = 64 := by rw [hexL_len, hl]
    have hg : (hexL (parRow s 64)).getD j 0 = s.data.toList.getD j 0 := by
      have he := hexL_even (parRow s 64) (j / 2) (by omega)
      have hk := key (j / 2) (by omega)
      rcases Nat.mod_two_eq_zero_or_one j with hh | hh
      · rw [show 2 * (j / 2) = j by omega] at he hk
        rw [he.1, hk.1]; rfl
      · rw [show 2 * (j / 2) + 1 = j by omega] at he hk
        rw [he.2, hk.2]; rfl
    rw [List.getD_eq_getElem?_getD, List.getD_eq_getElem?_getD, List.getElem?_eq_getElem (by omega), List.getElem?_eq_getElem (by omega)] at hg
    rw [List.getElem?_eq_getElem (by omega), List.getElem?_eq_getElem (by omega)]
    simpa using hg
  · rw [List.getElem?_eq_none (by rw [hexL_len, hl]; omega), List.getElem?_eq_none (by omega)]
theorem parL_no {s : ByteArray} (h : parB s = false) : parL s = List.replicate 32 0 := by unfold parL; rw [h]; rfl
theorem par_or {s : ByteArray} (h : ((!(parB s)) && ((parL s) == (List.replicate 32 0))) = false) : parB s = true := by
  cases hp : parB s with
  | true => rfl
  | false => rw [hp, parL_no hp] at h; simp at h
theorem hexS_less {a b : List UInt8} (h : a.length = b.length) : Op.bytesLess (hexS a).toList (hexS b).toList = Op.bytesLess a b := by
  rw [baToList, baToList]
  exact hex_less h
theorem parse_hex {l : List UInt8} (hl : l.length = 32) (w : World) : Calls Tryd.prog 8 #[.string (hexS l)] w fun e w' => e = .returned (.tuple #[.agg (bv l), .bool true]) ∧ Ext [] w w' := by
  have := shaParse (hexS l) w (by rw [hexS_size hl]; unfold maxLen; decide)
  rwa [parL_hex hl, parB_hex hl] at this

set_option maxRecDepth 100000 in
theorem bytesCompare (x y : Nat) (a b : List UInt8) (w : World) (ha : a.length = 32) (hb : b.length = 32) (hR : Has w [(y, .cells (bv b) 25 (0, 0)), (x, .cells (bv a) 25 (0, 0))]) :
    Calls Tryd.prog 19 #[.slice (some ⟨x, 0, none⟩) 32 32, .slice (some ⟨y, 0, none⟩) 32 32] w fun e w' => e = .returned (.int .i64 (cmpL a b)) ∧ Ext [] w w' := by
  refine enter (vs := [.slice (some ⟨x, 0, none⟩) 32 32, .slice (some ⟨y, 0, none⟩) 32 32]) [] [(y, .cells (bv b) 25 (0, 0)), (x, .cells (bv a) 25 (0, 0))] [] Tryd.func19 rfl (by kernel_rfl) (HP.ofHas hR) ?_
  refine Cfg.reg rfl [0, 1] [] (Γ' := [(0, [], .slice (some ⟨x, 0, none⟩) 32 32), (1, [], .slice (some ⟨y, 0, none⟩) 32 32)]) (nd := (fun _ => [])) (fun _ => by kernel_rfl) trivial ?_
  refine Cfg.begL rfl ?_
  refine CfgL.pure 2 [] none (Γ' := [(6, [], .slice (some ⟨y, 0, none⟩) 32 32), (5, [], .slice (some ⟨x, 0, none⟩) 32 32), (0, [], .slice (some ⟨x, 0, none⟩) 32 32), (1, [], .slice (some ⟨y, 0, none⟩) 32 32)]) (nd := (fun _ => [])) (by kernel_rfl) (fun _ => by kernel_rfl) trivial ?_
  refine CfgL.eff (o := _) rfl (by kernel_rfl) (by kernel_rfl) (Eff.callE (vs := [.slice (some ⟨x, 0, none⟩) 32 32, .slice (some ⟨y, 0, none⟩) 32 32]) (.int .i64 (cmpL a b)) (e := Extern.BytealgCompare.compare) rfl Tryd.func29 rfl rfl (by kernel_rfl) (by kernel_rfl) (by kernel_rfl) (fun w1 h => compare32 ha hb (h.ro _ (List.mem_cons_of_mem _ (List.mem_cons_self ..))) (h.ro _ (List.mem_cons_self ..)))) ?_
  rintro ⟨⟩ -
  refine CfgL.pure 1 [] (some [4]) (Γ' := [(4, [], .int .i64 (cmpL a b))]) (nd := (fun _ => [])) (by kernel_rfl) (fun _ => by kernel_rfl) trivial ?_
  refine CfgL.done rfl ?_
  refine Cfg.ret rfl (rs := [.tmp 4]) rfl [.int .i64 (cmpL a b)] ⟨by kernel_rfl, trivial⟩ (fun w1 hp => ?_)
  exact ⟨rfl, hp.ext⟩

set_option maxRecDepth 100000 in
theorem shaLess (a b : List UInt8) (w : World) (ha : a.length = 32) (hb : b.length = 32) :
    Calls Tryd.prog 11 #[.agg (bv a), .agg (bv b)] w fun e w' => e = .returned (.bool (Op.bytesLess a b)) ∧ Ext [] w w' := by
  refine enter (vs := [.agg (bv a), .agg (bv b)]) [] [] [] Tryd.func11 rfl (by kernel_rfl) (HP.start w) ?_
  refine Cfg.begL rfl ?_
  refine CfgL.eff (o := _) rfl (by kernel_rfl) (by kernel_rfl) (Eff.box (v := .agg (bv a)) rfl (by kernel_rfl)) ?_
  rintro x ⟨hx, nx⟩
  refine CfgL.eff (o := _) rfl (by kernel_rfl) (by kernel_rfl) (Eff.box (v := .agg (bv b)) rfl (by kernel_rfl)) ?_
  rintro y ⟨hy, ny⟩
  refine CfgL.pure 1 [] (some [2, 3]) (Γ' := [(3, [], .pointer (some ⟨y, 0, none⟩)), (2, [], .pointer (some ⟨x, 0, none⟩))]) (nd := (fun _ => [])) (by kernel_rfl) (fun _ => by kernel_rfl) trivial ?_
  refine CfgL.done rfl ?_
  refine Cfg.begA rfl (by kernel_rfl) [(y, .cells (bv b) 25 (0, 0)), (x, .cells (bv a) 25 (0, 0))] ?_
  refine CfgA.pure [0, 1] [] none (l' := #[true, true, false, false, false]) (by kernel_rfl) (by kernel_rfl) (.cons_cons _ (.cons_cons _ .slnil)) 3 rfl (Γ' := [(6, [], .slice (some ⟨y, 0, none⟩) 32 32), (5, [], .slice (some ⟨x, 0, none⟩) 32 32), (3, [], .pointer (some ⟨y, 0, none⟩)), (2, [], .pointer (some ⟨x, 0, none⟩))]) (nd := (fun _ => [(32 ≤ 32), (32 ≤ 32)])) (fun _ => by kernel_rfl) ⟨(by omega), (by omega), trivial⟩ ?_
  refine CfgA.eff 2 (o := _) rfl (by kernel_rfl) (fuel' := 2) rfl (by kernel_rfl) (by kernel_rfl) (Eff.callA (vs := [.slice (some ⟨x, 0, none⟩) 32 32, .slice (some ⟨y, 0, none⟩) 32 32]) (.int .i64 (cmpL a b)) rfl Tryd.func19 rfl rfl (by kernel_rfl) (fun w1 h => bytesCompare x y a b w1 ha hb (h.has (fun e he => he)))) (fun _ _ => (.cons_cons _ (.cons_cons _ .slnil))) ?_
  rintro ⟨⟩ -
  refine CfgA.pure [3, 4] [] (some [4]) (l' := #[true, true, true, true, true]) (by kernel_rfl) (by kernel_rfl) (.cons_cons _ (.cons_cons _ .slnil)) 0 rfl (Γ' := [(4, [], .bool (decide ((cmpL a b) < (0 : Int))))]) (nd := (fun _ => [])) (fun _ => by kernel_rfl) trivial ?_
  refine CfgA.done (by kernel_rfl) ?_
  refine Cfg.ret rfl (rs := [.tmp 4]) rfl [.bool (decide ((cmpL a b) < (0 : Int)))] ⟨by kernel_rfl, trivial⟩ (fun w1 hp => ?_)
  exact ⟨congrArg (fun b => Ending.returned (.bool b)) (cmpL_less ha hb), hp.ext⟩

end Go.Proofs.YtmkefcjphdaoiaaDoor
