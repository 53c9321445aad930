/- delta: how two texts begin and end alike; parts laid. Conditions: what is laid is no longer than memory bears. -/
import Derived.Test.YtfoihchlomlgfaaWire4
namespace Go.Proofs.Ytfoihchlomlgfaa
open K
set_option linter.unusedVariables false

/-- How many hold, from the first on. -/
def cnt (p : Nat → Bool) (n : Nat) : Nat := ((List.range n).takeWhile p).length
theorem cnt_eq {p : Nat → Bool} {n i : Nat} (hi : i ≤ n) (h : ∀ j, j < i → p j = true) (hx : i < n → p i = false) : cnt p n = i := by
  obtain ⟨m, rfl⟩ : ∃ m, n = i + m := ⟨n - i, by omega⟩
  unfold cnt
  rw [List.range_add, List.takeWhile_append_of_pos (fun a ha => h a (List.mem_range.1 ha))]
  cases m with
  | zero => simp
  | succ m =>
    have := hx (by omega)
    rw [List.range_succ_eq_map, List.map_cons, List.takeWhile_cons, Nat.add_zero, this]
    simp
theorem cnt_le (p : Nat → Bool) (n : Nat) : cnt p n ≤ n := by
  unfold cnt
  have := (List.takeWhile_sublist (p := p) (l := List.range n)).length_le
  simpa using this
theorem cnt_all {p : Nat → Bool} {n j : Nat} (h : j < cnt p n) : p j = true := by
  unfold cnt at h
  have hp : ((List.range n).takeWhile p) <+: List.range n := List.takeWhile_prefix p
  have h1 : ((List.range n).takeWhile p)[j]? = (List.range n)[j]? := by
    obtain ⟨t, ht⟩ := hp
    have h2 := List.getElem?_append_left (l₂ := t) h
    rw [ht] at h2
    exact h2.symm
  have hl : j < n := Nat.lt_of_lt_of_le h (cnt_le p n)
  rw [List.getElem?_range hl] at h1
  have hm : j ∈ (List.range n).takeWhile p := List.mem_of_getElem? h1
  exact List.all_eq_true.1 (List.all_takeWhile (p := p) (l := List.range n)) j hm
def mn (a b : ByteArray) : Nat := min a.size b.size
theorem min_if (a b : ByteArray) : (if (b.size : Int) < (a.size : Int) then (b.size : Int) else (a.size : Int)) = (mn a b : Int) := by unfold mn; split <;> omega
def pF (a b : ByteArray) (j : Nat) : Bool := sbyte a (j : Int) == sbyte b (j : Int)
def qB (a b : ByteArray) (j : Nat) : Bool := sbyte a (((a.size : Int) - 1) - (j : Int)) == sbyte b (((b.size : Int) - 1) - (j : Int))
/-- How two texts begin alike, and end. -/
def frN (a b : ByteArray) : Nat := cnt (pF a b) (mn a b)
def bkN (a b : ByteArray) : Nat := cnt (qB a b) (mn a b - frN a b)
theorem fb_le (a b : ByteArray) : frN a b + bkN a b ≤ a.size ∧ frN a b + bkN a b ≤ b.size := by
  have h1 := cnt_le (pF a b) (mn a b)
  have h2 := cnt_le (qB a b) (mn a b - frN a b)
  have h3 : mn a b ≤ a.size ∧ mn a b ≤ b.size := by unfold mn; omega
  unfold bkN
  unfold frN at *
  omega
/-- A part of a delta. -/
structure PT where
  kind : Nat
  pat : Nat
  n : Nat
  text : ByteArray
structure PT.Ok (p : PT) : Prop where
  kind : p.kind < 256
  pat : p.pat < 4294967296
  n : p.n < 4294967296
def PT0 : PT := ⟨0, 0, 0, ByteArray.empty⟩
def pA (p : PT) : Array Value := #[.int .u8 p.kind, .int .u32 p.pat, .int .u32 p.n, .string p.text]
theorem pA_size (p : PT) : (pA p).size = 4 := rfl
def pcells (ps : List PT) : List Value := ps.flatMap fun p => (pA p).toList
theorem pcells_snoc (ps : List PT) (p : PT) : pcells ps ++ (pA p).toList = pcells (ps ++ [p]) := by simp [pcells]
theorem pcells_len (ps : List PT) : (pcells ps).length = ps.length * 4 := by
  induction ps with
  | nil => rfl
  | cons p ps ih =>
    rw [show pcells (p :: ps) = (pA p).toList ++ pcells ps by simp [pcells], List.length_append, ih, List.length_cons]
    show 4 + _ = _
    omega
theorem pcells_get : ∀ (ps : List PT) (j : Nat), j < ps.length * 4 → (pcells ps)[j]? = some ((pA (ps.getD (j / 4) PT0)).getD (j % 4) undef)
  | [], j, h => by simp at h
  | p :: ps, j, h => by
    rw [show pcells (p :: ps) = (pA p).toList ++ pcells ps by simp [pcells]]
    by_cases hj : j < 4
    · rw [List.getElem?_append_left (by show j < 4; exact hj), show j / 4 = 0 by omega, show j % 4 = j by omega]
      rcases j with _ | _ | _ | _ | j
      · rfl
      · rfl
      · rfl
      · rfl
      · omega
    · obtain ⟨i, rfl⟩ : ∃ i, j = i + 4 := ⟨j - 4, by omega⟩
      rw [List.getElem?_append_right (by show 4 ≤ i + 4; omega), show i + 4 - (pA p).toList.length = i from (by show i + 4 - 4 = i; omega), pcells_get ps i (by rw [List.length_cons] at h; omega), show (i + 4) / 4 = i / 4 + 1 by omega, show (i + 4) % 4 = i % 4 by omega, List.getD_cons_succ]
theorem own_ins4 {o : Own} {e : TypeId} {ps : List PT} (hok : OwnOk o 4 ps.length (pcells ps)) : InS (o.o e (pcells ps)) o.a (ps.length * 4) (fun j => (pA (ps.getD (j / 4) PT0)).getD (j % 4) undef) := by
  intro hn
  obtain ⟨p, rfl⟩ := own_some hok (by omega)
  refine ⟨p.1, 0, _, e, (0, 0), rfl, List.mem_cons_self .., fun j hj => ?_⟩
  rw [Nat.zero_add]
  simp only [List.getElem?_toArray]
  rw [List.getElem?_append_left (by rw [pcells_len]; exact hj)]
  exact pcells_get ps j hj
def isAggB : TypeDesc → Bool
  | .struct _ | .array _ _ => true
  | _ => false
theorem load_part {P : Program} {w : World} {b off : Nat} {ty : TypeId} {d : TypeDesc} {p : PT} (hu : P.underlying ty = some d) (hd : isAggB d = true) (hi : (P.info? ty).map (·.size) = some 4)
    (h : ∀ j, j < 4 → w.cell? ⟨b, off + j, none⟩ = some ((pA p).getD j undef)) : (loadVar ty ⟨b, off, none⟩).run P w = .ok (.agg (pA p)) w := by
  obtain ⟨inf, hinf, hs⟩ := Option.map_eq_some_iff.1 hi
  have h1 := K.run_loadCells (P := P) (w := w) (b := b) (off := off) (n := 4) (fun j => (pA p).getD j undef) h
  have h2 : ((List.range 4).map fun j => (pA p).getD j undef).toArray = pA p := rfl
  rw [h2] at h1
  have h3 : (isAgg ty).run P w = .ok true w := by
    simp only [isAgg, Sem.run_bind, run_underlying' hu, Result.andThen_ok]
    cases d <;> simp_all [isAggB]
  have h4 : (sizeOf ty).run P w = .ok 4 w := by rw [run_sizeOf' hinf, hs]
  simp [loadVar, h3, h4, h1]
theorem all_pA (p : PT) : ∀ v ∈ (pA p).toList, one v = true := by
  intro v hv
  simp only [pA, List.mem_cons, List.not_mem_nil, or_false] at hv
  rcases hv with rfl | rfl | rfl | rfl <;> rfl
/-- A part as bytes. -/
def layP (p : PT) : List UInt8 := be p.kind 1 ++ (if p.kind = 0 then four p.pat ++ four p.n else text4 p.text)
theorem layP_le (p : PT) : (layP p).length ≤ 9 + p.text.size := by
  unfold layP
  rw [List.length_append, be_len]
  split
  · rw [List.length_append, show (four p.pat).length = 4 from be_len _ _, show (four p.n).length = 4 from be_len _ _]; omega
  · rw [text4_len]; omega
theorem flat_two {α : Type} (f : α → List UInt8) (x y : α) : flat f [x, y] = f x ++ f y := by simp [flat]
theorem inS_num2 (bk : Nat) (t : TypeId) (fr : Nat × Nat) (k : IntKind) (n m : Nat) : InS [(bk, .cells #[.int k (n : Int), .int k (m : Int)] t fr)] (some ⟨bk, 0, none⟩) [n, m].length (fun j => .int k (([n, m].getD j 0 : Nat) : Int)) := by
  intro _
  refine ⟨bk, 0, _, t, fr, rfl, List.mem_singleton.2 rfl, fun j hj => ?_⟩
  have hj2 : j < 2 := hj
  rcases j with _ | _ | j
  · rfl
  · rfl
  · omega
theorem two_get {n m k : Nat} (h : n < k) (h' : m < k) (i : Nat) : [n, m].getD i 0 < k := by
  rcases i with _ | _ | i
  · exact h
  · exact h'
  · exact Nat.lt_of_le_of_lt (Nat.zero_le _) h
theorem wFour2 (l : List UInt8) (x y : Nat) (bk : Nat) (t : TypeId) (w : World) (hx : x < 4294967296) (hy : y < 4294967296) (hr : l.length + 8 ≤ 140737488355328) (hh : Has w [(bk, .cells #[.int .u32 (x : Int), .int .u32 (y : Int)] t (0, 0))]) :
    Calls Try.prog 12 #[.agg #[.string (tx l)], .slice (some ⟨bk, 0, none⟩) 2 2] w fun e w' => e = .returned (.agg #[.string (tx (l ++ (four x ++ four y)))]) ∧ Ext [] w w' := by
  have := wFour (tx l) (some ⟨bk, 0, none⟩) 2 [x, y] [(bk, .cells #[.int .u32 (x : Int), .int .u32 (y : Int)] t (0, 0))] w (inS_num2 bk t (0, 0) .u32 x y) hh (by simp [maxLen]) (by rw [flat_two, tx_size, List.length_append, show (four x).length = 4 from be_len _ _, show (four y).length = 4 from be_len _ _]; omega) (two_get hx hy)
  rw [flat_two] at this
  exact this
theorem wFour1 (l : List UInt8) (x : Nat) (bk : Nat) (t : TypeId) (w : World) (hx : x < 4294967296) (hr : l.length + 4 ≤ 140737488355328) (hh : Has w [(bk, .cells #[.int .u32 (x : Int)] t (0, 0))]) :
    Calls Try.prog 12 #[.agg #[.string (tx l)], .slice (some ⟨bk, 0, none⟩) 1 1] w fun e w' => e = .returned (.agg #[.string (tx (l ++ four x))]) ∧ Ext [] w w' := by
  have := wFour (tx l) (some ⟨bk, 0, none⟩) 1 [x] [(bk, .cells #[.int .u32 (x : Int)] t (0, 0))] w (inS_num bk t (0, 0) .u32 x) hh (by simp [maxLen]) (by rw [flat_one, tx_size, show (four x).length = 4 from be_len _ _]; omega) (one_get hx (by decide))
  rw [flat_one] at this
  exact this
theorem wText1 (l : List UInt8) (s : ByteArray) (bk : Nat) (t : TypeId) (w : World) (hr : l.length + (4 + s.size) ≤ 140737488355328) (hh : Has w [(bk, .cells #[.string s] t (0, 0))]) :
    Calls Try.prog 29 #[.agg #[.string (tx l)], .slice (some ⟨bk, 0, none⟩) 1 1] w fun e w' => e = .returned (.agg #[.string (tx (l ++ text4 s))]) ∧ Ext [] w w' := by
  have := wText (tx l) (some ⟨bk, 0, none⟩) 1 [s] [(bk, .cells #[.string s] t (0, 0))] w (inS_text bk t (0, 0) s) hh (by simp [maxLen]) (by rw [flat_one, tx_size, text4_len]; omega)
  rw [flat_one] at this
  exact this
/-- A row of parts. -/
def rowP (ps : List PT) : List UInt8 := four ps.length ++ flat layP ps

theorem lay_le : ∀ (ps : List PT), (flat layP ps).length ≤ (flat (fun p => be 0 9 ++ p.text.data.toList) ps).length
  | [] => Nat.le_refl _
  | p :: ps => by
    have h1 := lay_le ps
    have h2 := layP_le p
    rw [show flat layP (p :: ps) = layP p ++ flat layP ps by simp [flat], show flat (fun p : PT => be 0 9 ++ p.text.data.toList) (p :: ps) = (be 0 9 ++ p.text.data.toList) ++ flat (fun p : PT => be 0 9 ++ p.text.data.toList) ps by simp [flat], List.length_append, List.length_append, List.length_append, be_len, ba_len]
    omega

set_option maxRecDepth 100000 in
theorem dAlike (a b : ByteArray) (w : World) (ha : a.size ≤ maxLen) (hb : b.size ≤ maxLen) :
    Calls Try.prog 7 #[.string a, .string b] w fun e w' => e = .returned (.tuple #[.int .i64 (frN a b : Int), .int .i64 (bkN a b : Int)]) ∧ Ext [] w w' := by
  unfold maxLen at ha hb
  have hmn : mn a b ≤ a.size ∧ mn a b ≤ b.size := by unfold mn; omega
  refine enter (vs := [.string a, .string b]) [] [] [] Try.func7 rfl (by kernel_rfl) (HP.start w) ?_
  refine Cfg.reg rfl [0, 1, 4, 5] [] (Γ' := [(5, [], .int .i64 0), (4, [], .int .i64 0), (0, [], .string a), (1, [], .string b)]) (nd := (fun _ => [])) (fun _ => by kernel_rfl) trivial ?_
  refine Cfg.begL rfl ?_
  refine CfgL.pure 4 [] none (Γ' := [(10, [], .int .i64 (b.size : Int)), (9, [], .string b), (8, [], .int .i64 (a.size : Int)), (7, [], .string a), (5, [], .int .i64 0), (4, [], .int .i64 0), (0, [], .string a), (1, [], .string b)]) (nd := (fun _ => [])) (by kernel_rfl) (fun _ => by kernel_rfl) trivial ?_
  refine CfgL.eff (o := _) rfl (by kernel_rfl) (by kernel_rfl) (Eff.minI (k := .i64) (a := (a.size : Int)) (b := (b.size : Int)) rfl (by kernel_rfl) (by kernel_rfl)) ?_
  rintro ⟨⟩ -
  refine CfgL.pure 1 [] (some [0, 1, 4, 5, 6]) (Γ' := [(6, [], .int .i64 (if (b.size : Int) < (a.size : Int) then (b.size : Int) else (a.size : Int))), (5, [], .int .i64 0), (4, [], .int .i64 0), (0, [], .string a), (1, [], .string b)]) (nd := (fun _ => [])) (by kernel_rfl) (fun _ => by kernel_rfl) trivial ?_
  refine CfgL.done rfl ?_
  refine Cfg.setG (Γ' := [(6, [], .int .i64 ((mn a b) : Int)), (5, [], .int .i64 0), (4, [], .int .i64 0), (0, [], .string a), (1, [], .string b)]) (congrArg (fun (xq : Int) => ([(6, [], .int .i64 xq), (5, [], .int .i64 0), (4, [], .int .i64 0), (0, [], .string a), (1, [], .string b)] : Env)) (min_if a b)) ?_
  refine Cfg.loop rfl (ι := Nat) (fun (f : Nat) => [(6, [], .int .i64 ((mn a b) : Int)), (5, [], .int .i64 0), (4, [], .int .i64 (f : Int)), (0, [], .string a), (1, [], .string b)]) (fun (f : Nat) => []) (fun (f : Nat) => (f ≤ mn a b) ∧ (∀ j, j < f → pF a b j = true)) (fun (f : Nat) => mn a b - f) 0 ?_ (Conv.mk (by kernel_rfl)) .slnil ?_
  · exact ⟨Nat.zero_le _, fun j h => absurd h (Nat.not_lt_zero j)⟩
  · rintro f ⟨hf, hfa⟩
    refine Cfg.regD rfl (by kernel_rfl) [0, 1, 4, 5, 6, 23] [] (Γ' := [(23, [], .bool ((decide ((f : Int) < ((mn a b) : Int))) && ((sbyte a (f : Int)) == (sbyte b (f : Int))))), (6, [], .int .i64 ((mn a b) : Int)), (5, [], .int .i64 0), (4, [], .int .i64 (f : Int)), (0, [], .string a), (1, [], .string b)]) (nd := (fun _ => [((.bool (decide ((f : Int) < ((mn a b) : Int))) : Value) = .bool true → (0 ≤ (f : Int) ∧ (f : Int) < (a.size : Int))), ((.bool (decide ((f : Int) < ((mn a b) : Int))) : Value) = .bool true → (0 ≤ (f : Int) ∧ (f : Int) < (b.size : Int)))])) (by kernel_rfl) (by kernel_rfl) (fun _ => by kernel_rfl) ⟨(fun g0 => have q0 : ((f : Int) < ((mn a b) : Int)) := (of_decide_eq_true (boolV g0)); (by omega)), (fun g0 => have q0 : ((f : Int) < ((mn a b) : Int)) := (of_decide_eq_true (boolV g0)); (by omega)), trivial⟩ ?_
    refine Cfg.cond rfl (b := ((decide ((f : Int) < ((mn a b) : Int))) && ((sbyte a (f : Int)) == (sbyte b (f : Int))))) (by kernel_rfl) (fun c1r => ?_) (fun c1r => ?_)
    · have c1 : (((f : Int) < ((mn a b) : Int)) ∧ ((sbyte a (f : Int)) = (sbyte b (f : Int)))) := ⟨(of_decide_eq_true (andT1 c1r)), (beq_iff_eq.1 (andT2 c1r))⟩
      refine Cfg.reg rfl [0, 1, 4, 5, 6] [] (Γ' := [(4, [], .int .i64 ((f : Int) + 1)), (6, [], .int .i64 ((mn a b) : Int)), (5, [], .int .i64 0), (0, [], .string a), (1, [], .string b)]) (nd := (fun _ => [((-9223372036854775808 : Int) ≤ ((f : Int) + 1) ∧ ((f : Int) + 1) ≤ 9223372036854775807)])) (fun _ => by kernel_rfl) ⟨(by omega), trivial⟩ ?_
      refine Cfg.again rfl (f + 1) ⟨by omega, fun j hj => by
    rcases Nat.lt_or_ge j f with hh | hh
    · exact hfa j hh
    · rw [show j = f by omega]; exact beq_iff_eq.2 c1.2⟩ (by show mn a b - (f + 1) < mn a b - f; omega) (Conv.mk (by kernel_rfl)) .slnil
    · have c1 : ((¬ ((f : Int) < ((mn a b) : Int))) ∨ ((sbyte a (f : Int)) ≠ (sbyte b (f : Int)))) := ((andF c1r).elim (fun h => Or.inl (of_decide_eq_false h)) (fun h => Or.inr (beq_eq_false_iff_ne.1 h)))
      have hfr : frN a b = f := cnt_eq hf hfa (fun hlt => by
          rcases c1 with h | h
          · omega
          · exact beq_eq_false_iff_ne.2 h)
      subst hfr
      refine Conv.cfg (Γ' := [(6, [], .int .i64 ((mn a b) : Int)), (5, [], .int .i64 0), (4, [], .int .i64 ((frN a b) : Int)), (0, [], .string a), (1, [], .string b)]) (Conv.mk (by kernel_rfl)) ?_
      refine Cfg.loop rfl (ι := Nat) (fun (k : Nat) => [(6, [], .int .i64 ((mn a b) : Int)), (5, [], .int .i64 (k : Int)), (4, [], .int .i64 ((frN a b) : Int)), (0, [], .string a), (1, [], .string b)]) (fun (k : Nat) => []) (fun (k : Nat) => (k ≤ mn a b - frN a b) ∧ (∀ j, j < k → qB a b j = true)) (fun (k : Nat) => mn a b - frN a b - k) 0 ?_ (Conv.mk (by kernel_rfl)) .slnil ?_
      · exact ⟨Nat.zero_le _, fun j h => absurd h (Nat.not_lt_zero j)⟩
      · rintro k ⟨hk, hka⟩
        refine Cfg.regD rfl (by kernel_rfl) [0, 1, 4, 5, 6, 47] [] (Γ' := [(47, [], .bool ((decide ((k : Int) < (((mn a b) : Int) - ((frN a b) : Int)))) && ((sbyte a (((a.size : Int) - 1) - (k : Int))) == (sbyte b (((b.size : Int) - 1) - (k : Int)))))), (6, [], .int .i64 ((mn a b) : Int)), (5, [], .int .i64 (k : Int)), (4, [], .int .i64 ((frN a b) : Int)), (0, [], .string a), (1, [], .string b)]) (nd := (fun _ => [((-9223372036854775808 : Int) ≤ (((mn a b) : Int) - ((frN a b) : Int)) ∧ (((mn a b) : Int) - ((frN a b) : Int)) ≤ 9223372036854775807), ((.bool (decide ((k : Int) < (((mn a b) : Int) - ((frN a b) : Int)))) : Value) = .bool true → ((-9223372036854775808 : Int) ≤ ((a.size : Int) - 1) ∧ ((a.size : Int) - 1) ≤ 9223372036854775807)), ((.bool (decide ((k : Int) < (((mn a b) : Int) - ((frN a b) : Int)))) : Value) = .bool true → ((-9223372036854775808 : Int) ≤ (((a.size : Int) - 1) - (k : Int)) ∧ (((a.size : Int) - 1) - (k : Int)) ≤ 9223372036854775807)), ((.bool (decide ((k : Int) < (((mn a b) : Int) - ((frN a b) : Int)))) : Value) = .bool true → (0 ≤ (((a.size : Int) - 1) - (k : Int)) ∧ (((a.size : Int) - 1) - (k : Int)) < (a.size : Int))), ((.bool (decide ((k : Int) < (((mn a b) : Int) - ((frN a b) : Int)))) : Value) = .bool true → ((-9223372036854775808 : Int) ≤ ((b.size : Int) - 1) ∧ ((b.size : Int) - 1) ≤ 9223372036854775807)), ((.bool (decide ((k : Int) < (((mn a b) : Int) - ((frN a b) : Int)))) : Value) = .bool true → ((-9223372036854775808 : Int) ≤ (((b.size : Int) - 1) - (k : Int)) ∧ (((b.size : Int) - 1) - (k : Int)) ≤ 9223372036854775807)), ((.bool (decide ((k : Int) < (((mn a b) : Int) - ((frN a b) : Int)))) : Value) = .bool true → (0 ≤ (((b.size : Int) - 1) - (k : Int)) ∧ (((b.size : Int) - 1) - (k : Int)) < (b.size : Int)))])) (by kernel_rfl) (by kernel_rfl) (fun _ => by kernel_rfl) ⟨(by omega), (fun g0 => have q0 : ((k : Int) < (((mn a b) : Int) - ((frN a b) : Int))) := (of_decide_eq_true (boolV g0)); (by omega)), (fun g0 => have q0 : ((k : Int) < (((mn a b) : Int) - ((frN a b) : Int))) := (of_decide_eq_true (boolV g0)); (by omega)), (fun g0 => have q0 : ((k : Int) < (((mn a b) : Int) - ((frN a b) : Int))) := (of_decide_eq_true (boolV g0)); (by omega)), (fun g0 => have q0 : ((k : Int) < (((mn a b) : Int) - ((frN a b) : Int))) := (of_decide_eq_true (boolV g0)); (by omega)), (fun g0 => have q0 : ((k : Int) < (((mn a b) : Int) - ((frN a b) : Int))) := (of_decide_eq_true (boolV g0)); (by omega)), (fun g0 => have q0 : ((k : Int) < (((mn a b) : Int) - ((frN a b) : Int))) := (of_decide_eq_true (boolV g0)); (by omega)), trivial⟩ ?_
        refine Cfg.cond rfl (b := ((decide ((k : Int) < (((mn a b) : Int) - ((frN a b) : Int)))) && ((sbyte a (((a.size : Int) - 1) - (k : Int))) == (sbyte b (((b.size : Int) - 1) - (k : Int)))))) (by kernel_rfl) (fun c2r => ?_) (fun c2r => ?_)
        · have c2 : (((k : Int) < (((mn a b) : Int) - ((frN a b) : Int))) ∧ ((sbyte a (((a.size : Int) - 1) - (k : Int))) = (sbyte b (((b.size : Int) - 1) - (k : Int))))) := ⟨(of_decide_eq_true (andT1 c2r)), (beq_iff_eq.1 (andT2 c2r))⟩
          refine Cfg.reg rfl [0, 1, 4, 5, 6] [] (Γ' := [(5, [], .int .i64 ((k : Int) + 1)), (6, [], .int .i64 ((mn a b) : Int)), (4, [], .int .i64 ((frN a b) : Int)), (0, [], .string a), (1, [], .string b)]) (nd := (fun _ => [((-9223372036854775808 : Int) ≤ ((k : Int) + 1) ∧ ((k : Int) + 1) ≤ 9223372036854775807)])) (fun _ => by kernel_rfl) ⟨(by omega), trivial⟩ ?_
          refine Cfg.again rfl (k + 1) ⟨by omega, fun j hj => by
    rcases Nat.lt_or_ge j k with hh | hh
    · exact hka j hh
    · rw [show j = k by omega]; exact beq_iff_eq.2 c2.2⟩ (by show mn a b - frN a b - (k + 1) < mn a b - frN a b - k; omega) (Conv.mk (by kernel_rfl)) .slnil
        · have c2 : ((¬ ((k : Int) < (((mn a b) : Int) - ((frN a b) : Int)))) ∨ ((sbyte a (((a.size : Int) - 1) - (k : Int))) ≠ (sbyte b (((b.size : Int) - 1) - (k : Int))))) := ((andF c2r).elim (fun h => Or.inl (of_decide_eq_false h)) (fun h => Or.inr (beq_eq_false_iff_ne.1 h)))
          have hbk : bkN a b = k := cnt_eq hk hka (fun hlt => by
              rcases c2 with h | h
              · omega
              · exact beq_eq_false_iff_ne.2 h)
          refine Cfg.reg rfl [4, 5] [] (Γ' := [(5, [], .int .i64 (k : Int)), (4, [], .int .i64 ((frN a b) : Int))]) (nd := (fun _ => [])) (fun _ => by kernel_rfl) trivial ?_
          refine Cfg.ret rfl (rs := [.tmp 4, .tmp 5]) rfl [.int .i64 ((frN a b) : Int), .int .i64 (k : Int)] ⟨by kernel_rfl, by kernel_rfl, trivial⟩ (fun w1 hp => ?_)
          exact ⟨by rw [hbk]; rfl, hp.ext⟩

set_option maxRecDepth 100000 in
theorem rAlike (a b : ByteArray) (w : World) (ha : a.size ≤ maxLen) (hb : b.size ≤ maxLen) :
    Calls Try.prog 8 #[.string a, .string b] w fun e w' => e = .returned (.tuple #[.int .i64 (frN a b : Int), .int .i64 (bkN a b : Int)]) ∧ Ext [] w w' := by
  unfold maxLen at ha hb
  have hmn : mn a b ≤ a.size ∧ mn a b ≤ b.size := by unfold mn; omega
  have hmn2 : ∀ x, x < a.size → x < b.size → x < mn a b := fun x h1 h2 => by unfold mn; omega
  refine enter (vs := [.string a, .string b]) [] [] [] Try.func8 rfl (by kernel_rfl) (HP.start w) ?_
  refine Cfg.reg rfl [0, 1] [] (Γ' := [(0, [], .string a), (1, [], .string b)]) (nd := (fun _ => [])) (fun _ => by kernel_rfl) trivial ?_
  refine Cfg.reg rfl [0, 1, 6] [] (Γ' := [(6, [], .int .i64 0), (0, [], .string a), (1, [], .string b)]) (nd := (fun _ => [])) (fun _ => by kernel_rfl) trivial ?_
  refine Cfg.loop rfl (ι := Nat) (fun (f : Nat) => [(6, [], .int .i64 (f : Int)), (0, [], .string a), (1, [], .string b)]) (fun (f : Nat) => []) (fun (f : Nat) => (f ≤ mn a b) ∧ (∀ j, j < f → pF a b j = true)) (fun (f : Nat) => mn a b - f) 0 ?_ (Conv.mk (by kernel_rfl)) .slnil ?_
  · exact ⟨Nat.zero_le _, fun j h => absurd h (Nat.not_lt_zero j)⟩
  · rintro f ⟨hf, hfa⟩
    refine Cfg.regD rfl (by kernel_rfl) [0, 1, 6, 26] [] (Γ' := [(26, [], .bool (((decide ((f : Int) < (a.size : Int))) && (decide ((f : Int) < (b.size : Int)))) && ((sbyte a (f : Int)) == (sbyte b (f : Int))))), (6, [], .int .i64 (f : Int)), (0, [], .string a), (1, [], .string b)]) (nd := (fun _ => [((.bool ((decide ((f : Int) < (a.size : Int))) && (decide ((f : Int) < (b.size : Int)))) : Value) = .bool true → (0 ≤ (f : Int) ∧ (f : Int) < (a.size : Int))), ((.bool ((decide ((f : Int) < (a.size : Int))) && (decide ((f : Int) < (b.size : Int)))) : Value) = .bool true → (0 ≤ (f : Int) ∧ (f : Int) < (b.size : Int)))])) (by kernel_rfl) (by kernel_rfl) (fun _ => by kernel_rfl) ⟨(fun g0 => have q0 : (((f : Int) < (a.size : Int)) ∧ ((f : Int) < (b.size : Int))) := ⟨(of_decide_eq_true (andT1 (boolV g0))), (of_decide_eq_true (andT2 (boolV g0)))⟩; (by omega)), (fun g0 => have q0 : (((f : Int) < (a.size : Int)) ∧ ((f : Int) < (b.size : Int))) := ⟨(of_decide_eq_true (andT1 (boolV g0))), (of_decide_eq_true (andT2 (boolV g0)))⟩; (by omega)), trivial⟩ ?_
    refine Cfg.cond rfl (b := (((decide ((f : Int) < (a.size : Int))) && (decide ((f : Int) < (b.size : Int)))) && ((sbyte a (f : Int)) == (sbyte b (f : Int))))) (by kernel_rfl) (fun c1r => ?_) (fun c1r => ?_)
    · have c1 : ((((f : Int) < (a.size : Int)) ∧ ((f : Int) < (b.size : Int))) ∧ ((sbyte a (f : Int)) = (sbyte b (f : Int)))) := ⟨⟨(of_decide_eq_true (andT1 (andT1 c1r))), (of_decide_eq_true (andT2 (andT1 c1r)))⟩, (beq_iff_eq.1 (andT2 c1r))⟩
      refine Cfg.reg rfl [0, 1, 6] [] (Γ' := [(6, [], .int .i64 ((f : Int) + 1)), (0, [], .string a), (1, [], .string b)]) (nd := (fun _ => [((-9223372036854775808 : Int) ≤ ((f : Int) + 1) ∧ ((f : Int) + 1) ≤ 9223372036854775807)])) (fun _ => by kernel_rfl) ⟨(by omega), trivial⟩ ?_
      refine Cfg.again rfl (f + 1) ⟨(have := hmn2 f (by omega) (by omega); by omega), fun j hj => by
    rcases Nat.lt_or_ge j f with hh | hh
    · exact hfa j hh
    · rw [show j = f by omega]; exact beq_iff_eq.2 c1.2⟩ (by show mn a b - (f + 1) < mn a b - f; have := hmn2 f (by omega) (by omega); omega) (Conv.mk (by kernel_rfl)) .slnil
    · have c1 : (((¬ ((f : Int) < (a.size : Int))) ∨ (¬ ((f : Int) < (b.size : Int)))) ∨ ((sbyte a (f : Int)) ≠ (sbyte b (f : Int)))) := ((andF c1r).elim (fun h => Or.inl ((andF h).elim (fun h => Or.inl (of_decide_eq_false h)) (fun h => Or.inr (of_decide_eq_false h)))) (fun h => Or.inr (beq_eq_false_iff_ne.1 h)))
      have hfr : frN a b = f := cnt_eq hf hfa (fun hlt => by
          rcases c1 with (h | h) | h
          · omega
          · omega
          · exact beq_eq_false_iff_ne.2 h)
      subst hfr
      refine Conv.cfg (Γ' := [(6, [], .int .i64 ((frN a b) : Int)), (0, [], .string a), (1, [], .string b)]) (Conv.mk (by kernel_rfl)) ?_
      refine Cfg.reg rfl [0, 1, 6, 7] [] (Γ' := [(7, [], .int .i64 0), (6, [], .int .i64 ((frN a b) : Int)), (0, [], .string a), (1, [], .string b)]) (nd := (fun _ => [])) (fun _ => by kernel_rfl) trivial ?_
      refine Cfg.loop rfl (ι := Nat) (fun (k : Nat) => [(7, [], .int .i64 (k : Int)), (6, [], .int .i64 ((frN a b) : Int)), (0, [], .string a), (1, [], .string b)]) (fun (k : Nat) => []) (fun (k : Nat) => (k ≤ mn a b - frN a b) ∧ (∀ j, j < k → qB a b j = true)) (fun (k : Nat) => mn a b - frN a b - k) 0 ?_ (Conv.mk (by kernel_rfl)) .slnil ?_
      · exact ⟨Nat.zero_le _, fun j h => absurd h (Nat.not_lt_zero j)⟩
      · rintro k ⟨hk, hka⟩
        refine Cfg.regD rfl (by kernel_rfl) [0, 1, 6, 7, 59] [] (Γ' := [(59, [], .bool (((decide ((k : Int) < ((a.size : Int) - ((frN a b) : Int)))) && (decide ((k : Int) < ((b.size : Int) - ((frN a b) : Int))))) && ((sbyte a (((a.size : Int) - 1) - (k : Int))) == (sbyte b (((b.size : Int) - 1) - (k : Int)))))), (7, [], .int .i64 (k : Int)), (6, [], .int .i64 ((frN a b) : Int)), (0, [], .string a), (1, [], .string b)]) (nd := (fun _ => [((-9223372036854775808 : Int) ≤ ((a.size : Int) - ((frN a b) : Int)) ∧ ((a.size : Int) - ((frN a b) : Int)) ≤ 9223372036854775807), ((.bool (decide ((k : Int) < ((a.size : Int) - ((frN a b) : Int)))) : Value) = .bool true → ((-9223372036854775808 : Int) ≤ ((b.size : Int) - ((frN a b) : Int)) ∧ ((b.size : Int) - ((frN a b) : Int)) ≤ 9223372036854775807)), ((.bool ((decide ((k : Int) < ((a.size : Int) - ((frN a b) : Int)))) && (decide ((k : Int) < ((b.size : Int) - ((frN a b) : Int))))) : Value) = .bool true → ((-9223372036854775808 : Int) ≤ ((a.size : Int) - 1) ∧ ((a.size : Int) - 1) ≤ 9223372036854775807)), ((.bool ((decide ((k : Int) < ((a.size : Int) - ((frN a b) : Int)))) && (decide ((k : Int) < ((b.size : Int) - ((frN a b) : Int))))) : Value) = .bool true → ((-9223372036854775808 : Int) ≤ (((a.size : Int) - 1) - (k : Int)) ∧ (((a.size : Int) - 1) - (k : Int)) ≤ 9223372036854775807)), ((.bool ((decide ((k : Int) < ((a.size : Int) - ((frN a b) : Int)))) && (decide ((k : Int) < ((b.size : Int) - ((frN a b) : Int))))) : Value) = .bool true → (0 ≤ (((a.size : Int) - 1) - (k : Int)) ∧ (((a.size : Int) - 1) - (k : Int)) < (a.size : Int))), ((.bool ((decide ((k : Int) < ((a.size : Int) - ((frN a b) : Int)))) && (decide ((k : Int) < ((b.size : Int) - ((frN a b) : Int))))) : Value) = .bool true → ((-9223372036854775808 : Int) ≤ ((b.size : Int) - 1) ∧ ((b.size : Int) - 1) ≤ 9223372036854775807)), ((.bool ((decide ((k : Int) < ((a.size : Int) - ((frN a b) : Int)))) && (decide ((k : Int) < ((b.size : Int) - ((frN a b) : Int))))) : Value) = .bool true → ((-9223372036854775808 : Int) ≤ (((b.size : Int) - 1) - (k : Int)) ∧ (((b.size : Int) - 1) - (k : Int)) ≤ 9223372036854775807)), ((.bool ((decide ((k : Int) < ((a.size : Int) - ((frN a b) : Int)))) && (decide ((k : Int) < ((b.size : Int) - ((frN a b) : Int))))) : Value) = .bool true → (0 ≤ (((b.size : Int) - 1) - (k : Int)) ∧ (((b.size : Int) - 1) - (k : Int)) < (b.size : Int)))])) (by kernel_rfl) (by kernel_rfl) (fun _ => by kernel_rfl) ⟨(by omega), (fun g0 => have q0 : ((k : Int) < ((a.size : Int) - ((frN a b) : Int))) := (of_decide_eq_true (boolV g0)); (by omega)), (fun g0 => have q0 : (((k : Int) < ((a.size : Int) - ((frN a b) : Int))) ∧ ((k : Int) < ((b.size : Int) - ((frN a b) : Int)))) := ⟨(of_decide_eq_true (andT1 (boolV g0))), (of_decide_eq_true (andT2 (boolV g0)))⟩; (by omega)), (fun g0 => have q0 : (((k : Int) < ((a.size : Int) - ((frN a b) : Int))) ∧ ((k : Int) < ((b.size : Int) - ((frN a b) : Int)))) := ⟨(of_decide_eq_true (andT1 (boolV g0))), (of_decide_eq_true (andT2 (boolV g0)))⟩; (by omega)), (fun g0 => have q0 : (((k : Int) < ((a.size : Int) - ((frN a b) : Int))) ∧ ((k : Int) < ((b.size : Int) - ((frN a b) : Int)))) := ⟨(of_decide_eq_true (andT1 (boolV g0))), (of_decide_eq_true (andT2 (boolV g0)))⟩; (by omega)), (fun g0 => have q0 : (((k : Int) < ((a.size : Int) - ((frN a b) : Int))) ∧ ((k : Int) < ((b.size : Int) - ((frN a b) : Int)))) := ⟨(of_decide_eq_true (andT1 (boolV g0))), (of_decide_eq_true (andT2 (boolV g0)))⟩; (by omega)), (fun g0 => have q0 : (((k : Int) < ((a.size : Int) - ((frN a b) : Int))) ∧ ((k : Int) < ((b.size : Int) - ((frN a b) : Int)))) := ⟨(of_decide_eq_true (andT1 (boolV g0))), (of_decide_eq_true (andT2 (boolV g0)))⟩; (by omega)), (fun g0 => have q0 : (((k : Int) < ((a.size : Int) - ((frN a b) : Int))) ∧ ((k : Int) < ((b.size : Int) - ((frN a b) : Int)))) := ⟨(of_decide_eq_true (andT1 (boolV g0))), (of_decide_eq_true (andT2 (boolV g0)))⟩; (by omega)), trivial⟩ ?_
        refine Cfg.cond rfl (b := (((decide ((k : Int) < ((a.size : Int) - ((frN a b) : Int)))) && (decide ((k : Int) < ((b.size : Int) - ((frN a b) : Int))))) && ((sbyte a (((a.size : Int) - 1) - (k : Int))) == (sbyte b (((b.size : Int) - 1) - (k : Int)))))) (by kernel_rfl) (fun c2r => ?_) (fun c2r => ?_)
        · have c2 : ((((k : Int) < ((a.size : Int) - ((frN a b) : Int))) ∧ ((k : Int) < ((b.size : Int) - ((frN a b) : Int)))) ∧ ((sbyte a (((a.size : Int) - 1) - (k : Int))) = (sbyte b (((b.size : Int) - 1) - (k : Int))))) := ⟨⟨(of_decide_eq_true (andT1 (andT1 c2r))), (of_decide_eq_true (andT2 (andT1 c2r)))⟩, (beq_iff_eq.1 (andT2 c2r))⟩
          refine Cfg.reg rfl [0, 1, 6, 7] [] (Γ' := [(7, [], .int .i64 ((k : Int) + 1)), (6, [], .int .i64 ((frN a b) : Int)), (0, [], .string a), (1, [], .string b)]) (nd := (fun _ => [((-9223372036854775808 : Int) ≤ ((k : Int) + 1) ∧ ((k : Int) + 1) ≤ 9223372036854775807)])) (fun _ => by kernel_rfl) ⟨(by omega), trivial⟩ ?_
          refine Cfg.again rfl (k + 1) ⟨(have := hmn2 (frN a b + k) (by omega) (by omega); by omega), fun j hj => by
    rcases Nat.lt_or_ge j k with hh | hh
    · exact hka j hh
    · rw [show j = k by omega]; exact beq_iff_eq.2 c2.2⟩ (by show mn a b - frN a b - (k + 1) < mn a b - frN a b - k; have := hmn2 (frN a b + k) (by omega) (by omega); omega) (Conv.mk (by kernel_rfl)) .slnil
        · have c2 : (((¬ ((k : Int) < ((a.size : Int) - ((frN a b) : Int)))) ∨ (¬ ((k : Int) < ((b.size : Int) - ((frN a b) : Int))))) ∨ ((sbyte a (((a.size : Int) - 1) - (k : Int))) ≠ (sbyte b (((b.size : Int) - 1) - (k : Int))))) := ((andF c2r).elim (fun h => Or.inl ((andF h).elim (fun h => Or.inl (of_decide_eq_false h)) (fun h => Or.inr (of_decide_eq_false h)))) (fun h => Or.inr (beq_eq_false_iff_ne.1 h)))
          have hbk : bkN a b = k := cnt_eq hk hka (fun hlt => by
              rcases c2 with (h | h) | h
              · omega
              · omega
              · exact beq_eq_false_iff_ne.2 h)
          refine Cfg.reg rfl [4, 5] [] (Γ' := [(5, [], .int .i64 (k : Int)), (4, [], .int .i64 ((frN a b) : Int))]) (nd := (fun _ => [])) (fun _ => by kernel_rfl) trivial ?_
          refine Cfg.ret rfl (rs := [.tmp 4, .tmp 5]) rfl [.int .i64 ((frN a b) : Int), .int .i64 (k : Int)] ⟨by kernel_rfl, by kernel_rfl, trivial⟩ (fun w1 hp => ?_)
          exact ⟨by rw [hbk]; rfl, hp.ext⟩

set_option maxRecDepth 100000 in
theorem layPt (s : ByteArray) (p : PT) (w : World) (hk : p.Ok) (hr : s.size + (9 + p.text.size) ≤ 140737488355328) :
    Calls Try.prog 14 #[.agg #[.string s], .agg (pA p)] w fun e w' => e = .returned (.agg #[.string (tx (s.data.toList ++ layP p))]) ∧ Ext [] w w' := by
  have hk1 := hk.kind
  have hk2 := hk.pat
  have hk3 := hk.n
  have hl1 : (s.data.toList ++ be p.kind 1).length = s.size + 1 := by rw [List.length_append, be_len, ba_len]
  refine enter (vs := [.agg #[.string s], .agg (pA p)]) [] [] [] Try.func14 rfl (by kernel_rfl) (HP.start w) ?_
  refine Cfg.begL rfl ?_
  refine CfgL.eff (o := _) rfl (by kernel_rfl) (by kernel_rfl) (Eff.box (v := .agg #[.string s]) rfl (by kernel_rfl)) ?_
  rintro o ⟨ho, no⟩
  refine CfgL.eff (o := _) rfl (by kernel_rfl) (by kernel_rfl) (Eff.box (v := .agg (pA p)) rfl (by kernel_rfl)) ?_
  rintro pt ⟨hpt, npt⟩
  refine CfgL.eff (o := _) rfl (by kernel_rfl) (by kernel_rfl) (Eff.alloc (z := (.agg #[.string ByteArray.empty])) rfl (by kernel_rfl)) ?_
  rintro rs ⟨hrs, nrs⟩
  refine CfgL.done rfl ?_
  refine Conv.cfg (Γ' := [(4, [], .pointer (some ⟨rs, 0, none⟩)), (3, [], .pointer (some ⟨pt, 0, none⟩)), (2, [], .pointer (some ⟨o, 0, none⟩))]) (Conv.mk (by kernel_rfl)) ?_
  refine Cfg.begL rfl ?_
  refine CfgL.pure 3 [(0, false, some (.agg #[.string s])), (0, false, none), (0, false, some (.int .u8 (p.kind : Int)))] none (Γ' := [(7, [], .int .u8 (p.kind : Int)), (6, [], .pointer (some ⟨pt, 0, none⟩)), (5, [], .agg #[.string s]), (4, [], .pointer (some ⟨rs, 0, none⟩)), (3, [], .pointer (some ⟨pt, 0, none⟩)), (2, [], .pointer (some ⟨o, 0, none⟩))]) (nd := (fun S => [(∀ w1, S w1 → (loadVar 37 ⟨o, 0, none⟩).run Try.prog w1 = .ok (.agg #[.string s]) w1), (∀ w1, S w1 → w1.cell? ⟨pt, 0, none⟩ = some (.int .u8 (p.kind : Int)))])) (by kernel_rfl) (fun _ => by kernel_rfl) ⟨(fun w1 h => h.oload 2 rfl Try.underlying37 rfl (n := 1) (by kernel_rfl) rfl), (fun w1 h => h.ocell 1 rfl rfl), trivial⟩ ?_
  refine CfgL.eff (o := _) rfl (by kernel_rfl) (by kernel_rfl) (Eff.callA (vs := [.agg #[.string s], .int .u8 (p.kind : Int)]) (.agg #[.string (tx (s.data.toList ++ be p.kind 1))]) rfl Try.func28 rfl rfl (by kernel_rfl) (fun w1 _ => wByte s p.kind w1 hk1 (by omega))) ?_
  rintro ⟨⟩ -
  refine CfgL.eff (o := _) rfl (by kernel_rfl) (by kernel_rfl) (Eff.storeN (b := o) (off := 0) (vs := #[.string (tx (s.data.toList ++ be p.kind 1))]) (n := 1) rfl (by kernel_rfl) (by kernel_rfl) (by kernel_rfl) rfl (by simp [one]) 2 (cs := #[.string s]) (e := 37) (by kernel_rfl) (by simp)) ?_
  rintro ⟨⟩ -
  refine CfgL.setO (O' := [(rs, .cells #[.string ByteArray.empty] 37 (0, 0)), (pt, .cells (pA p) 35 (0, 0)), (o, .cells #[.string (tx (s.data.toList ++ be p.kind 1))] 37 (0, 0))]) (congrArg (fun (xq : Array Value) => ([(rs, .cells #[.string ByteArray.empty] 37 (0, 0)), (pt, .cells (pA p) 35 (0, 0)), (o, .cells xq 37 (0, 0))] : List (Nat × Obj))) (rfl)) ?_
  refine CfgL.done rfl ?_
  refine Conv.cfg (Γ' := [(4, [], .pointer (some ⟨rs, 0, none⟩)), (3, [], .pointer (some ⟨pt, 0, none⟩)), (2, [], .pointer (some ⟨o, 0, none⟩))]) (Conv.mk (by kernel_rfl)) ?_
  refine Cfg.reg rfl [2, 3, 4, 11] [(0, false, none), (0, false, some (.int .u8 (p.kind : Int)))] (Γ' := [(11, [], .bool ((p.kind : Int) == (0 : Int))), (4, [], .pointer (some ⟨rs, 0, none⟩)), (3, [], .pointer (some ⟨pt, 0, none⟩)), (2, [], .pointer (some ⟨o, 0, none⟩))]) (nd := (fun S => [(∀ w1, S w1 → w1.cell? ⟨pt, 0, none⟩ = some (.int .u8 (p.kind : Int)))])) (fun _ => by kernel_rfl) ⟨(fun w1 h => h.ocell 1 rfl rfl), trivial⟩ ?_
  refine Cfg.cond rfl (b := ((p.kind : Int) == (0 : Int))) (by kernel_rfl) (fun c1r => ?_) (fun c1r => ?_)
  · have c1 : ((p.kind : Int) = (0 : Int)) := (beq_iff_eq.1 c1r)
    refine Cfg.begL rfl ?_
    refine CfgL.pure 5 [(0, false, some (.agg #[.string (tx (s.data.toList ++ be p.kind 1))])), (0, false, none), (0, false, some (.int .u32 (p.pat : Int))), (0, false, none), (0, false, some (.int .u32 (p.n : Int)))] none (Γ' := [(16, [], .int .u32 (p.n : Int)), (15, [], .pointer (some ⟨pt, 2, none⟩)), (14, [], .int .u32 (p.pat : Int)), (13, [], .pointer (some ⟨pt, 1, none⟩)), (12, [], .agg #[.string (tx (s.data.toList ++ be p.kind 1))]), (11, [], .bool ((p.kind : Int) == (0 : Int))), (4, [], .pointer (some ⟨rs, 0, none⟩)), (3, [], .pointer (some ⟨pt, 0, none⟩)), (2, [], .pointer (some ⟨o, 0, none⟩))]) (nd := (fun S => [(∀ w1, S w1 → (loadVar 37 ⟨o, 0, none⟩).run Try.prog w1 = .ok (.agg #[.string (tx (s.data.toList ++ be p.kind 1))]) w1), (∀ w1, S w1 → w1.cell? ⟨pt, 1, none⟩ = some (.int .u32 (p.pat : Int))), (∀ w1, S w1 → w1.cell? ⟨pt, 2, none⟩ = some (.int .u32 (p.n : Int)))])) (by kernel_rfl) (fun _ => by kernel_rfl) ⟨(fun w1 h => h.oload 2 rfl Try.underlying37 rfl (n := 1) (by kernel_rfl) rfl), (fun w1 h => h.ocell 1 rfl rfl), (fun w1 h => h.ocell 1 rfl rfl), trivial⟩ ?_
    refine CfgL.eff (o := _) rfl (by kernel_rfl) (by kernel_rfl) (Eff.buildSlice (e := 33) (cells := #[.int .u32 (p.pat : Int), .int .u32 (p.n : Int)]) (parts := #[(0, .int .u32 (p.pat : Int)), (1, .int .u32 (p.n : Int))]) rfl (by kernel_rfl) (fun _ => by kernel_rfl)) ?_
    rintro bk4 ⟨hbk4, nbk4⟩
    refine CfgL.eff (o := _) rfl (by kernel_rfl) (by kernel_rfl) (Eff.callA (vs := [.agg #[.string (tx (s.data.toList ++ be p.kind 1))], .slice (some ⟨bk4, 0, none⟩) 2 2]) (.agg #[.string (tx ((s.data.toList ++ be p.kind 1) ++ (four p.pat ++ four p.n)))]) rfl Try.func12 rfl rfl (by kernel_rfl) (fun w1 h => wFour2 (s.data.toList ++ be p.kind 1) p.pat p.n bk4 33 w1 hk2 hk3 (by omega) (h.has (fun e he => List.mem_of_getElem? (i := 0) (by rw [List.mem_singleton.1 he]; rfl))))) ?_
    rintro ⟨⟩ -
    refine CfgL.eff (o := _) rfl (by kernel_rfl) (by kernel_rfl) (Eff.storeN (b := rs) (off := 0) (vs := #[.string (tx ((s.data.toList ++ be p.kind 1) ++ (four p.pat ++ four p.n)))]) (n := 1) rfl (by kernel_rfl) (by kernel_rfl) (by kernel_rfl) rfl (by simp [one]) 1 (cs := #[.string ByteArray.empty]) (e := 37) (by kernel_rfl) (by simp)) ?_
    rintro ⟨⟩ -
    refine CfgL.setO (O' := [(bk4, .cells #[.int .u32 (p.pat : Int), .int .u32 (p.n : Int)] 33 (0, 0)), (rs, .cells #[.string (tx ((s.data.toList ++ be p.kind 1) ++ (four p.pat ++ four p.n)))] 37 (0, 0)), (pt, .cells (pA p) 35 (0, 0)), (o, .cells #[.string (tx (s.data.toList ++ be p.kind 1))] 37 (0, 0))]) (congrArg (fun (xq : Array Value) => ([(bk4, .cells #[.int .u32 (p.pat : Int), .int .u32 (p.n : Int)] 33 (0, 0)), (rs, .cells xq 37 (0, 0)), (pt, .cells (pA p) 35 (0, 0)), (o, .cells #[.string (tx (s.data.toList ++ be p.kind 1))] 37 (0, 0))] : List (Nat × Obj))) (rfl)) ?_
    refine CfgL.done rfl ?_
    refine Conv.cfg (Γ' := [(4, [], .pointer (some ⟨rs, 0, none⟩))]) (Conv.mk (by kernel_rfl)) ?_
    refine Cfg.ret rfl (rs := [.cell 4 37]) rfl [.agg #[.string (tx ((s.data.toList ++ be p.kind 1) ++ (four p.pat ++ four p.n)))]] ⟨⟨_, by kernel_rfl, (fun w1 h => h.oload 1 rfl Try.underlying37 rfl (n := 1) (by kernel_rfl) rfl)⟩, trivial⟩ (fun w1 hp => ?_)
    exact ⟨congrArg (fun x => Ending.returned (.agg #[.string (tx x)])) (by unfold layP; rw [if_pos (by omega), List.append_assoc]), hp.ext⟩
  · have c1 : ((p.kind : Int) ≠ (0 : Int)) := (beq_eq_false_iff_ne.1 c1r)
    refine Cfg.begL rfl ?_
    refine CfgL.pure 3 [(0, false, some (.agg #[.string (tx (s.data.toList ++ be p.kind 1))])), (0, false, none), (0, false, some (.string p.text))] none (Γ' := [(21, [], .string p.text), (20, [], .pointer (some ⟨pt, 3, none⟩)), (19, [], .agg #[.string (tx (s.data.toList ++ be p.kind 1))]), (11, [], .bool ((p.kind : Int) == (0 : Int))), (4, [], .pointer (some ⟨rs, 0, none⟩)), (3, [], .pointer (some ⟨pt, 0, none⟩)), (2, [], .pointer (some ⟨o, 0, none⟩))]) (nd := (fun S => [(∀ w1, S w1 → (loadVar 37 ⟨o, 0, none⟩).run Try.prog w1 = .ok (.agg #[.string (tx (s.data.toList ++ be p.kind 1))]) w1), (∀ w1, S w1 → w1.cell? ⟨pt, 3, none⟩ = some (.string p.text))])) (by kernel_rfl) (fun _ => by kernel_rfl) ⟨(fun w1 h => h.oload 2 rfl Try.underlying37 rfl (n := 1) (by kernel_rfl) rfl), (fun w1 h => h.ocell 1 rfl rfl), trivial⟩ ?_
    refine CfgL.eff (o := _) rfl (by kernel_rfl) (by kernel_rfl) (Eff.buildSlice (e := 9) (cells := #[.string p.text]) (parts := #[(0, .string p.text)]) rfl (by kernel_rfl) (fun _ => by kernel_rfl)) ?_
    rintro bk5 ⟨hbk5, nbk5⟩
    refine CfgL.eff (o := _) rfl (by kernel_rfl) (by kernel_rfl) (Eff.callA (vs := [.agg #[.string (tx (s.data.toList ++ be p.kind 1))], .slice (some ⟨bk5, 0, none⟩) 1 1]) (.agg #[.string (tx ((s.data.toList ++ be p.kind 1) ++ text4 p.text))]) rfl Try.func29 rfl rfl (by kernel_rfl) (fun w1 h => wText1 (s.data.toList ++ be p.kind 1) p.text bk5 9 w1 (by omega) (h.has (fun e he => List.mem_of_getElem? (i := 0) (by rw [List.mem_singleton.1 he]; rfl))))) ?_
    rintro ⟨⟩ -
    refine CfgL.eff (o := _) rfl (by kernel_rfl) (by kernel_rfl) (Eff.storeN (b := rs) (off := 0) (vs := #[.string (tx ((s.data.toList ++ be p.kind 1) ++ text4 p.text))]) (n := 1) rfl (by kernel_rfl) (by kernel_rfl) (by kernel_rfl) rfl (by simp [one]) 1 (cs := #[.string ByteArray.empty]) (e := 37) (by kernel_rfl) (by simp)) ?_
    rintro ⟨⟩ -
    refine CfgL.setO (O' := [(bk5, .cells #[.string p.text] 9 (0, 0)), (rs, .cells #[.string (tx ((s.data.toList ++ be p.kind 1) ++ text4 p.text))] 37 (0, 0)), (pt, .cells (pA p) 35 (0, 0)), (o, .cells #[.string (tx (s.data.toList ++ be p.kind 1))] 37 (0, 0))]) (congrArg (fun (xq : Array Value) => ([(bk5, .cells #[.string p.text] 9 (0, 0)), (rs, .cells xq 37 (0, 0)), (pt, .cells (pA p) 35 (0, 0)), (o, .cells #[.string (tx (s.data.toList ++ be p.kind 1))] 37 (0, 0))] : List (Nat × Obj))) (rfl)) ?_
    refine CfgL.done rfl ?_
    refine Conv.cfg (Γ' := [(4, [], .pointer (some ⟨rs, 0, none⟩))]) (Conv.mk (by kernel_rfl)) ?_
    refine Cfg.ret rfl (rs := [.cell 4 37]) rfl [.agg #[.string (tx ((s.data.toList ++ be p.kind 1) ++ text4 p.text))]] ⟨⟨_, by kernel_rfl, (fun w1 h => h.oload 1 rfl Try.underlying37 rfl (n := 1) (by kernel_rfl) rfl)⟩, trivial⟩ (fun w1 hp => ?_)
    exact ⟨congrArg (fun x => Ending.returned (.agg #[.string (tx x)])) (by unfold layP; rw [if_neg (by omega), List.append_assoc]), hp.ext⟩

set_option maxRecDepth 100000 in
theorem wRowP (l : List UInt8) (la : Option Addr) (cap : Nat) (ps : List PT) (Rl : List (Nat × Obj)) (w : World) (hI : InS Rl la (ps.length * 4) (fun j => (pA (ps.getD (j / 4) PT0)).getD (j % 4) undef)) (hR : Has w Rl) (hn : ps.length ≤ maxLen) (h32 : ps.length < 4294967296) (hok : ∀ i, i < ps.length → (ps.getD i PT0).Ok) (hr : l.length + (4 + (flat (fun p => be 0 9 ++ p.text.data.toList) ps).length) ≤ 140737488355328) :
    Calls Try.prog 13 #[.agg #[.string (tx l)], .slice la ps.length cap, .func (.func 14) #[] #[]] w fun e w' => e = .returned (.agg #[.string (tx (l ++ rowP ps))]) ∧ Ext [] w w' := by
  unfold maxLen at hn
  have hrl : (rowP ps).length = 4 + (flat layP ps).length := by unfold rowP; rw [List.length_append, show (four ps.length).length = 4 from be_len _ _]
  refine enter (vs := [.agg #[.string (tx l)], .slice la ps.length cap, .func (.func 14) #[] #[]]) [] Rl [] Try.func13 rfl (by kernel_rfl) (HP.ofHas hR) ?_
  refine Cfg.begL rfl ?_
  refine CfgL.eff (o := _) rfl (by kernel_rfl) (by kernel_rfl) (Eff.box (v := .agg #[.string (tx l)]) rfl (by kernel_rfl)) ?_
  rintro o ⟨ho, no⟩
  refine CfgL.eff (o := _) rfl (by kernel_rfl) (by kernel_rfl) (Eff.alloc (z := (.agg #[.string ByteArray.empty])) rfl (by kernel_rfl)) ?_
  rintro rs ⟨hrs, nrs⟩
  refine CfgL.done rfl ?_
  refine Conv.cfg (Γ' := [(6, [], .pointer (some ⟨rs, 0, none⟩)), (3, [], .pointer (some ⟨o, 0, none⟩)), (1, [], .slice la ps.length cap), (2, [], .func (.func 14) #[] #[])]) (Conv.mk (by kernel_rfl)) ?_
  have hmod : ((ps.length : Int) % 4294967296) = (ps.length : Int) := by omega
  refine Cfg.begL rfl ?_
  refine CfgL.pure 4 [(0, false, some (.agg #[.string (tx l)]))] none (Γ' := [(12, [], .int .u32 ((ps.length : Int) % 4294967296)), (11, [], .int .i64 (ps.length : Int)), (10, [], .slice la ps.length cap), (9, [], .agg #[.string (tx l)]), (6, [], .pointer (some ⟨rs, 0, none⟩)), (3, [], .pointer (some ⟨o, 0, none⟩)), (1, [], .slice la ps.length cap), (2, [], .func (.func 14) #[] #[])]) (nd := (fun S => [(∀ w1, S w1 → (loadVar 37 ⟨o, 0, none⟩).run Try.prog w1 = .ok (.agg #[.string (tx l)]) w1)])) (by kernel_rfl) (fun _ => by kernel_rfl) ⟨(fun w1 h => h.oload 1 rfl Try.underlying37 rfl (n := 1) (by kernel_rfl) rfl), trivial⟩ ?_
  refine CfgL.eff (o := _) rfl (by kernel_rfl) (by kernel_rfl) (Eff.buildSlice (e := 33) (cells := #[.int .u32 ((ps.length : Int) % 4294967296)]) (parts := #[(0, .int .u32 ((ps.length : Int) % 4294967296))]) rfl (by kernel_rfl) (fun _ => by kernel_rfl)) ?_
  rintro bk3 ⟨hbk3, nbk3⟩
  refine CfgL.eff (o := _) rfl (by kernel_rfl) (by kernel_rfl) (Eff.callA (vs := [.agg #[.string (tx l)], .slice (some ⟨bk3, 0, none⟩) 1 1]) (.agg #[.string (tx (l ++ four ps.length))]) rfl Try.func12 rfl rfl (by kernel_rfl) (fun w1 h => wFour1 l ps.length bk3 33 w1 h32 (by omega) (by have hq := h.own (bk3, .cells #[.int .u32 ((ps.length : Int) % 4294967296)] 33 (0, 0)) (List.mem_of_getElem? (i := 0) rfl); rw [hmod] at hq; intro e he; rw [List.mem_singleton.1 he]; exact hq))) ?_
  rintro ⟨⟩ -
  refine CfgL.eff (o := _) rfl (by kernel_rfl) (by kernel_rfl) (Eff.storeN (b := o) (off := 0) (vs := #[.string (tx (l ++ four ps.length))]) (n := 1) rfl (by kernel_rfl) (by kernel_rfl) (by kernel_rfl) rfl (by simp [one]) 2 (cs := #[.string (tx l)]) (e := 37) (by kernel_rfl) (by simp)) ?_
  rintro ⟨⟩ -
  refine CfgL.setO (O' := [(bk3, .cells #[.int .u32 ((ps.length : Int) % 4294967296)] 33 (0, 0)), (rs, .cells #[.string ByteArray.empty] 37 (0, 0)), (o, .cells #[.string (tx (l ++ four ps.length))] 37 (0, 0))]) (congrArg (fun (xq : Array Value) => ([(bk3, .cells #[.int .u32 ((ps.length : Int) % 4294967296)] 33 (0, 0)), (rs, .cells #[.string ByteArray.empty] 37 (0, 0)), (o, .cells xq 37 (0, 0))] : List (Nat × Obj))) (rfl)) ?_
  refine CfgL.done rfl ?_
  refine Conv.cfg (Γ' := [(6, [], .pointer (some ⟨rs, 0, none⟩)), (3, [], .pointer (some ⟨o, 0, none⟩)), (1, [], .slice la ps.length cap), (2, [], .func (.func 14) #[] #[])]) (Conv.mk (by kernel_rfl)) ?_
  refine Cfg.reg rfl [2, 3, 6, 15, 16, 17] [] (Γ' := [(17, [], .int .i64 0), (16, [], .int .i64 (ps.length : Int)), (15, [], .slice la ps.length cap), (6, [], .pointer (some ⟨rs, 0, none⟩)), (3, [], .pointer (some ⟨o, 0, none⟩)), (2, [], .func (.func 14) #[] #[])]) (nd := (fun _ => [])) (fun _ => by kernel_rfl) trivial ?_
  refine Cfg.setO (O' := [(bk3, .cells #[.int .u32 ((ps.length : Int) % 4294967296)] 33 (0, 0)), (rs, .cells #[.string ByteArray.empty] 37 (0, 0)), (o, .cells #[.string (tx (l ++ (four ps.length ++ flat layP (ps.take 0))))] 37 (0, 0))]) (congrArg (fun (xq : Array Value) => ([(bk3, .cells #[.int .u32 ((ps.length : Int) % 4294967296)] 33 (0, 0)), (rs, .cells #[.string ByteArray.empty] 37 (0, 0)), (o, .cells xq 37 (0, 0))] : List (Nat × Obj))) (by rw [List.take_zero, flat_nil, List.append_nil])) ?_
  refine Cfg.loop rfl (ι := Nat) (fun (i : Nat) => [(17, [], .int .i64 (i : Int)), (16, [], .int .i64 (ps.length : Int)), (15, [], .slice la ps.length cap), (6, [], .pointer (some ⟨rs, 0, none⟩)), (3, [], .pointer (some ⟨o, 0, none⟩)), (2, [], .func (.func 14) #[] #[])]) (fun (i : Nat) => [(rs, .cells #[.string ByteArray.empty] 37 (0, 0)), (o, .cells #[.string (tx (l ++ (four ps.length ++ flat layP (ps.take i))))] 37 (0, 0))]) (fun (i : Nat) => (i ≤ ps.length)) (fun (i : Nat) => ps.length - i) 0 ?_ (Conv.mk (by kernel_rfl)) (.cons _ (.cons_cons _ (.cons_cons _ .slnil))) ?_
  · exact Nat.zero_le _
  · rintro i hi
    refine Cfg.reg rfl [2, 3, 6, 15, 16, 17, 18] [] (Γ' := [(18, [], .bool (decide ((i : Int) < (ps.length : Int)))), (17, [], .int .i64 (i : Int)), (16, [], .int .i64 (ps.length : Int)), (15, [], .slice la ps.length cap), (6, [], .pointer (some ⟨rs, 0, none⟩)), (3, [], .pointer (some ⟨o, 0, none⟩)), (2, [], .func (.func 14) #[] #[])]) (nd := (fun _ => [])) (fun _ => by kernel_rfl) trivial ?_
    refine Cfg.cond rfl (b := (decide ((i : Int) < (ps.length : Int)))) (by kernel_rfl) (fun c1r => ?_) (fun c1r => ?_)
    · have c1 : ((i : Int) < (ps.length : Int)) := (of_decide_eq_true c1r)
      have hpt := flat_part (f := fun p : PT => be 0 9 ++ p.text.data.toList) (l := ps) (i := i) PT0 (by omega)
      have hle := lay_le (ps.take i)
      have hroom : (tx (l ++ (four ps.length ++ flat layP (ps.take i)))).size + (9 + (ps.getD i PT0).text.size) ≤ 140737488355328 := by
        rw [tx_size, List.length_append, List.length_append, show (four ps.length).length = 4 from be_len _ _]
        rw [List.length_append, be_len, ba_len] at hpt
        omega
      obtain ⟨sb, off, cs, te, fre, rfl, hmem, hcs⟩ := hI (by omega)
      refine Conv.cfg (Γ' := [(18, [], .bool (decide ((i : Int) < (ps.length : Int)))), (17, [], .int .i64 (i : Int)), (16, [], .int .i64 (ps.length : Int)), (15, [], .slice (some ⟨sb, off, none⟩) ps.length cap), (6, [], .pointer (some ⟨rs, 0, none⟩)), (3, [], .pointer (some ⟨o, 0, none⟩)), (2, [], .func (.func 14) #[] #[])]) (Conv.mk (by kernel_rfl)) ?_
      refine Cfg.begL rfl ?_
      refine CfgL.pure 2 [(0, false, none), (0, false, some (.agg (pA (ps.getD i PT0))))] none (Γ' := [(20, [], .agg (pA (ps.getD i PT0))), (19, [], .pointer (some ⟨sb, (addO off (i * 4)), none⟩)), (18, [], .bool (decide ((i : Int) < (ps.length : Int)))), (17, [], .int .i64 (i : Int)), (16, [], .int .i64 (ps.length : Int)), (15, [], .slice (some ⟨sb, off, none⟩) ps.length cap), (6, [], .pointer (some ⟨rs, 0, none⟩)), (3, [], .pointer (some ⟨o, 0, none⟩)), (2, [], .func (.func 14) #[] #[])]) (nd := (fun S => [(0 ≤ (i : Int) ∧ (i : Int) < (ps.length : Int)), (∀ w1, S w1 → (loadVar 35 ⟨sb, (addO off (i * 4)), none⟩).run Try.prog w1 = .ok (.agg (pA (ps.getD i PT0))) w1)])) (by kernel_rfl) (fun _ => by kernel_rfl) ⟨(by omega), (fun w1 h => load_part Try.underlying35 rfl (by kernel_rfl) (fun j hj => by rw [addO_eq]; exact (cell_cells (h.ro _ hmem)).trans ((congrArg (fun z => cs[z]?) (show off + i * 4 + j = off + (i * 4 + j) by omega)).trans ((hcs (i * 4 + j) (by omega)).trans (by simp only [show (i * 4 + j) / 4 = i by omega, show (i * 4 + j) % 4 = j by omega]))))), trivial⟩ ?_
      refine CfgL.eff (o := _) rfl (by kernel_rfl) (by kernel_rfl) (Eff.alloc (z := (.agg (pA PT0))) rfl (by kernel_rfl)) ?_
      rintro el ⟨hel, nel⟩
      refine CfgL.eff (o := _) rfl (by kernel_rfl) (by kernel_rfl) (Eff.storeN (b := el) (off := 0) (vs := (pA (ps.getD i PT0))) (n := 4) rfl (by kernel_rfl) (by kernel_rfl) (by kernel_rfl) rfl (all_pA _) 0 (cs := (pA PT0)) (e := 35) (by kernel_rfl) (by rw [pA_size]; omega)) ?_
      rintro ⟨⟩ -
      refine CfgL.setO (O' := [(el, .cells (pA (ps.getD i PT0)) 35 (0, 0)), (rs, .cells #[.string ByteArray.empty] 37 (0, 0)), (o, .cells #[.string (tx (l ++ (four ps.length ++ flat layP (ps.take i))))] 37 (0, 0))]) (congrArg (fun (xq : Array Value) => ([(el, .cells xq 35 (0, 0)), (rs, .cells #[.string ByteArray.empty] 37 (0, 0)), (o, .cells #[.string (tx (l ++ (four ps.length ++ flat layP (ps.take i))))] 37 (0, 0))] : List (Nat × Obj))) (spl_all rfl)) ?_
      refine CfgL.done rfl ?_
      refine Conv.cfg (Γ' := [(8, [], .pointer (some ⟨el, 0, none⟩)), (17, [], .int .i64 (i : Int)), (16, [], .int .i64 (ps.length : Int)), (15, [], .slice (some ⟨sb, off, none⟩) ps.length cap), (6, [], .pointer (some ⟨rs, 0, none⟩)), (3, [], .pointer (some ⟨o, 0, none⟩)), (2, [], .func (.func 14) #[] #[])]) (Conv.mk (by kernel_rfl)) ?_
      refine Cfg.begL rfl ?_
      refine CfgL.pure 3 [(0, false, none), (0, false, some (.agg #[.string (tx (l ++ (four ps.length ++ flat layP (ps.take i))))])), (0, false, some (.agg (pA (ps.getD i PT0))))] none (Γ' := [(23, [], .agg (pA (ps.getD i PT0))), (22, [], .agg #[.string (tx (l ++ (four ps.length ++ flat layP (ps.take i))))]), (21, [], .func (.func 14) #[] #[]), (8, [], .pointer (some ⟨el, 0, none⟩)), (17, [], .int .i64 (i : Int)), (16, [], .int .i64 (ps.length : Int)), (15, [], .slice (some ⟨sb, off, none⟩) ps.length cap), (6, [], .pointer (some ⟨rs, 0, none⟩)), (3, [], .pointer (some ⟨o, 0, none⟩)), (2, [], .func (.func 14) #[] #[])]) (nd := (fun S => [(∀ w1, S w1 → (loadVar 37 ⟨o, 0, none⟩).run Try.prog w1 = .ok (.agg #[.string (tx (l ++ (four ps.length ++ flat layP (ps.take i))))]) w1), (∀ w1, S w1 → (loadVar 35 ⟨el, 0, none⟩).run Try.prog w1 = .ok (.agg (pA (ps.getD i PT0))) w1)])) (by kernel_rfl) (fun _ => by kernel_rfl) ⟨(fun w1 h => h.oload 2 rfl Try.underlying37 rfl (n := 1) (by kernel_rfl) rfl), (fun w1 h => h.oload 0 rfl Try.underlying35 rfl (n := 4) (by kernel_rfl) rfl), trivial⟩ ?_
      refine CfgL.eff (o := _) rfl (by kernel_rfl) (by kernel_rfl) (Eff.callAV (vs := [.agg #[.string (tx (l ++ (four ps.length ++ flat layP (ps.take i))))], .agg (pA (ps.getD i PT0))]) (.agg #[.string (tx ((l ++ (four ps.length ++ flat layP (ps.take i))) ++ layP (ps.getD i PT0)))]) rfl (by kernel_rfl) Try.func14 rfl rfl (by kernel_rfl) (fun w1 h => layPt (tx (l ++ (four ps.length ++ flat layP (ps.take i)))) _ w1 (hok i (by omega)) hroom)) ?_
      rintro ⟨⟩ -
      refine CfgL.eff (o := _) rfl (by kernel_rfl) (by kernel_rfl) (Eff.storeN (b := o) (off := 0) (vs := #[.string (tx ((l ++ (four ps.length ++ flat layP (ps.take i))) ++ layP (ps.getD i PT0)))]) (n := 1) rfl (by kernel_rfl) (by kernel_rfl) (by kernel_rfl) rfl (by simp [one]) 2 (cs := #[.string (tx (l ++ (four ps.length ++ flat layP (ps.take i))))]) (e := 37) (by kernel_rfl) (by simp)) ?_
      rintro ⟨⟩ -
      refine CfgL.setO (O' := [(el, .cells (pA (ps.getD i PT0)) 35 (0, 0)), (rs, .cells #[.string ByteArray.empty] 37 (0, 0)), (o, .cells #[.string (tx ((l ++ (four ps.length ++ flat layP (ps.take i))) ++ layP (ps.getD i PT0)))] 37 (0, 0))]) (congrArg (fun (xq : Array Value) => ([(el, .cells (pA (ps.getD i PT0)) 35 (0, 0)), (rs, .cells #[.string ByteArray.empty] 37 (0, 0)), (o, .cells xq 37 (0, 0))] : List (Nat × Obj))) (rfl)) ?_
      refine CfgL.done rfl ?_
      refine Conv.cfg (Γ' := [(17, [], .int .i64 (i : Int)), (16, [], .int .i64 (ps.length : Int)), (15, [], .slice (some ⟨sb, off, none⟩) ps.length cap), (6, [], .pointer (some ⟨rs, 0, none⟩)), (3, [], .pointer (some ⟨o, 0, none⟩)), (2, [], .func (.func 14) #[] #[])]) (Conv.mk (by kernel_rfl)) ?_
      refine Cfg.reg rfl [2, 3, 6, 15, 16, 17] [] (Γ' := [(17, [], .int .i64 ((i : Int) + 1)), (16, [], .int .i64 (ps.length : Int)), (15, [], .slice (some ⟨sb, off, none⟩) ps.length cap), (6, [], .pointer (some ⟨rs, 0, none⟩)), (3, [], .pointer (some ⟨o, 0, none⟩)), (2, [], .func (.func 14) #[] #[])]) (nd := (fun _ => [((-9223372036854775808 : Int) ≤ ((i : Int) + 1) ∧ ((i : Int) + 1) ≤ 9223372036854775807)])) (fun _ => by kernel_rfl) ⟨(by omega), trivial⟩ ?_
      refine Cfg.setO (O' := [(el, .cells (pA (ps.getD i PT0)) 35 (0, 0)), (rs, .cells #[.string ByteArray.empty] 37 (0, 0)), (o, .cells #[.string (tx (l ++ (four ps.length ++ flat layP (ps.take (i + 1)))))] 37 (0, 0))]) (congrArg (fun (xq : Array Value) => ([(el, .cells (pA (ps.getD i PT0)) 35 (0, 0)), (rs, .cells #[.string ByteArray.empty] 37 (0, 0)), (o, .cells xq 37 (0, 0))] : List (Nat × Obj))) (by rw [flat_succ PT0 (by omega), List.append_assoc, List.append_assoc])) ?_
      refine Cfg.again rfl (i + 1) (show i + 1 ≤ ps.length by omega) (by omega) (Conv.mk (by kernel_rfl)) (.cons _ (.cons_cons _ (.cons_cons _ .slnil)))
    · have c1 : (¬ ((i : Int) < (ps.length : Int))) := (of_decide_eq_false c1r)
      obtain rfl : i = ps.length := by omega
      refine Cfg.setO (O' := [(rs, .cells #[.string ByteArray.empty] 37 (0, 0)), (o, .cells #[.string (tx (l ++ rowP ps))] 37 (0, 0))]) (congrArg (fun (xq : Array Value) => ([(rs, .cells #[.string ByteArray.empty] 37 (0, 0)), (o, .cells xq 37 (0, 0))] : List (Nat × Obj))) (by rw [List.take_length]; rfl)) ?_
      refine Conv.cfg (Γ' := [(16, [], .int .i64 (ps.length : Int)), (15, [], .slice la ps.length cap), (6, [], .pointer (some ⟨rs, 0, none⟩)), (3, [], .pointer (some ⟨o, 0, none⟩)), (2, [], .func (.func 14) #[] #[])]) (Conv.mk (by kernel_rfl)) ?_
      refine Cfg.begL rfl ?_
      refine CfgL.pure 1 [(0, false, some (.agg #[.string (tx (l ++ rowP ps))]))] none (Γ' := [(26, [], .agg #[.string (tx (l ++ rowP ps))]), (16, [], .int .i64 (ps.length : Int)), (15, [], .slice la ps.length cap), (6, [], .pointer (some ⟨rs, 0, none⟩)), (3, [], .pointer (some ⟨o, 0, none⟩)), (2, [], .func (.func 14) #[] #[])]) (nd := (fun S => [(∀ w1, S w1 → (loadVar 37 ⟨o, 0, none⟩).run Try.prog w1 = .ok (.agg #[.string (tx (l ++ rowP ps))]) w1)])) (by kernel_rfl) (fun _ => by kernel_rfl) ⟨(fun w1 h => h.oload 1 rfl Try.underlying37 rfl (n := 1) (by kernel_rfl) rfl), trivial⟩ ?_
      refine CfgL.eff (o := _) rfl (by kernel_rfl) (by kernel_rfl) (Eff.storeN (b := rs) (off := 0) (vs := #[.string (tx (l ++ rowP ps))]) (n := 1) rfl (by kernel_rfl) (by kernel_rfl) (by kernel_rfl) rfl (by simp [one]) 0 (cs := #[.string ByteArray.empty]) (e := 37) (by kernel_rfl) (by simp)) ?_
      rintro ⟨⟩ -
      refine CfgL.setO (O' := [(rs, .cells #[.string (tx (l ++ rowP ps))] 37 (0, 0)), (o, .cells #[.string (tx (l ++ rowP ps))] 37 (0, 0))]) (congrArg (fun (xq : Array Value) => ([(rs, .cells xq 37 (0, 0)), (o, .cells #[.string (tx (l ++ rowP ps))] 37 (0, 0))] : List (Nat × Obj))) (rfl)) ?_
      refine CfgL.done rfl ?_
      refine Conv.cfg (Γ' := [(6, [], .pointer (some ⟨rs, 0, none⟩))]) (Conv.mk (by kernel_rfl)) ?_
      refine Cfg.ret rfl (rs := [.cell 6 37]) rfl [.agg #[.string (tx (l ++ rowP ps))]] ⟨⟨_, by kernel_rfl, (fun w1 h => h.oload 0 rfl Try.underlying37 rfl (n := 1) (by kernel_rfl) rfl)⟩, trivial⟩ (fun w1 hp => ?_)
      exact ⟨rfl, hp.ext⟩

end Go.Proofs.Ytfoihchlomlgfaa
