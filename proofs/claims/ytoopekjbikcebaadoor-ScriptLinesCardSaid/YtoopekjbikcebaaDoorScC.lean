/- script: rows of steps; words and numbers at a place. -/
import Derived.Test.YtoopekjbikcebaaDoorScB
import Derived.Laws.StructEq
namespace Go.Proofs.YtoopekjbikcebaaDoor
open K
set_option linter.unusedVariables false

/-- Cells of steps. -/
def stL (s : Stp) : List Value := [.int .i64 s.1, .int .u32 (s.2.1 : Int), .int .u32 (s.2.2.1 : Int), .int .u32 (s.2.2.2.1 : Int), .int .u32 (s.2.2.2.2.1 : Int), .int .u32 (s.2.2.2.2.2 : Int)]
def sv (l : List Stp) : List Value := l.flatMap stL
def sz0 : Stp := (0, 0, 0, 0, 0, 0)
theorem sv_app (a b : List Stp) : sv (a ++ b) = sv a ++ sv b := List.flatMap_append ..
theorem sv_one (s : Stp) : sv [s] = stL s := by simp [sv]
theorem sv_len : ∀ l : List Stp, (sv l).length = l.length * 6
  | [] => rfl
  | s :: l => by
    have ih := sv_len l
    rw [show sv (s :: l) = stL s ++ sv l from rfl, List.length_append, ih, List.length_cons]
    show 6 + l.length * 6 = (l.length + 1) * 6
    omega
theorem sv_at : ∀ (l : List Stp) (i j : Nat) (v : Value), i < l.length → (stL (l.getD i sz0))[j]? = some v → (sv l).getD (i * 6 + j) undef = v
  | [], i, j, v, h, _ => absurd h (Nat.not_lt_zero _)
  | s :: l, 0, j, v, _, hv => by
    have hj : j < 6 := (List.getElem?_eq_some_iff.1 hv).1
    rw [show sv (s :: l) = stL s ++ sv l from rfl, Nat.zero_mul, Nat.zero_add, List.getD_eq_getElem?_getD, List.getElem?_append_left hj]
    rw [show (stL s)[j]? = some v from hv]; rfl
  | s :: l, i + 1, j, v, h, hv => by
    have ih := sv_at l i j v (by simpa using h) hv
    have hl : (stL s).length = 6 := rfl
    rw [show sv (s :: l) = stL s ++ sv l from rfl, List.getD_eq_getElem?_getD, List.getElem?_append_right (by rw [hl]; omega), hl, show (i + 1) * 6 + j - 6 = i * 6 + j by omega, ← List.getD_eq_getElem?_getD]
    exact ih
/-- The rows' steps lie at la. -/
def InT (Rl : List (Nat × Obj)) (la : Option Addr) (l : List Stp) : Prop := InS Rl la (l.length * 6) (fun j => (sv l).getD j undef)
theorem t_cell {l : List Stp} {cs : Array Value} {off i : Nat} (hcs : ∀ j, j < l.length * 6 → cs[off + j]? = some ((sv l).getD j undef)) (hi : i < l.length) {j : Nat} {v : Value} (hv : (stL (l.getD i sz0))[j]? = some v) : cs[off + i * 6 + j]? = some v := by
  have hj : j < 6 := (List.getElem?_eq_some_iff.1 hv).1
  rw [Nat.add_assoc, hcs (i * 6 + j) (by omega), sv_at l i j v hi hv]
theorem InT.nil (Rl : List (Nat × Obj)) (la : Option Addr) : InT Rl la [] := fun h => absurd h (by simp)
theorem inT_own {o : K.Own} {e : TypeId} {l : List Stp} (hok : OwnOk o 6 l.length (sv l)) : InT (o.o e (sv l)) o.a l := by
  intro hn
  obtain ⟨p, rfl⟩ := own_some hok (by omega)
  refine ⟨p.1, 0, _, e, (0, 0), rfl, List.mem_cons_self .., fun j hj => ?_⟩
  have hl := sv_len l
  rw [Nat.zero_add]
  simp only [List.getElem?_toArray]
  rw [List.getElem?_append_left (by omega), List.getD_eq_getElem?_getD, List.getElem?_eq_getElem (by omega)]; rfl
theorem sv_succ {l : List Stp} {i : Nat} (h : i < l.length) : sv (l.take i) ++ stL (l.getD i sz0) = sv (l.take (i + 1)) := by
  rw [List.take_succ_eq_append_getElem h, sv_app, sv_one]
  simp [List.getElem?_eq_getElem h]
theorem st_all (s : Stp) : ∀ v ∈ stL s, one v = true := by
  intro v hv
  simp only [stL, List.mem_cons, List.not_mem_nil, or_false] at hv
  rcases hv with rfl | rfl | rfl | rfl | rfl | rfl <;> rfl
theorem st_src {w0 w : World} {M : List Nat} {R O : List (Nat × Obj)} (h : HP w0 M R O w) (i : Nat) {b : Nat} {r : Stp} {t : TypeId} (ho : O[i]? = some (b, .cells (stL r).toArray t (0, 0))) {j : Nat} {v : Value} (hj : (stL r)[j]? = some v) : w.cell? ⟨b, 0 + j, none⟩ = some v := by
  rw [Nat.zero_add, cell_cells (h.own _ (List.mem_of_getElem? ho)), List.getElem?_toArray]; exact hj
theorem own_le {o : K.Own} {sz n : Nat} {xs : List Value} (h : OwnOk o sz n xs) : n ≤ Own.c o := by
  cases o with
  | none => rw [h.nil rfl]; exact Nat.zero_le _
  | some p => exact (h.some p rfl).2
theorem eq_step {P : Program} {w : World} {cs : Array Value} {f : Field} {fs : List Field} {k : IntKind} {i : Int} (hn : f.name ≠ "_") (hu : P.underlying f.type = some (.int k)) (hp : (part f.type cs f.offset).run P w = .ok (.int k i) w) (hr : (Op.eqFields 9999 cs cs fs).run P w = .ok true w) :
    (Op.eqFields 9999 cs cs (f :: fs)).run P w = .ok true w := by
  rw [Op.eqFields, if_pos hn, Sem.run_bind, hp, Result.andThen_ok, Sem.run_bind, hp, Result.andThen_ok, Sem.run_bind, run_equalIn_int w 9998 f.type k k i i hu, Result.andThen_ok, beq_self_eq_true]
  rw [if_neg (by decide)]; exact hr
theorem part_int {P : Program} {w : World} {cs : Array Value} {t : TypeId} {k : IntKind} {i : Int} (o : Nat) (hu : P.underlying t = some (.int k)) (hc : cs[o]? = some (.int k i)) : (part t cs o).run P w = .ok (.int k i) w := by
  simp only [part, isAgg, Sem.run_bind, run_underlying' hu, Result.andThen_ok, Sem.run_pure, Bool.false_eq_true, if_false, hc]
theorem st_equal (s : Stp) (w : World) : (Op.equal 26 (.agg (stL s).toArray) (.agg (stL s).toArray)).run Tryd.prog w = .ok true w := by
  show (Op.equalIn (9999 + 1) 26 (.agg (stL s).toArray) (.agg (stL s).toArray)).run Tryd.prog w = _
  rw [run_equalIn_struct w 9999 26 _ _ (by kernel_rfl) (by kernel_rfl), show (Tryd.prog.fieldsOf 26).toList = [⟨ "Kind", 3, 0, false, "", "", 0⟩, ⟨ "ID", 24, 1, false, "", "", 8⟩, ⟨ "A", 24, 2, false, "", "", 12⟩, ⟨ "B", 24, 3, false, "", "", 16⟩, ⟨ "PA", 24, 4, false, "", "", 20⟩, ⟨ "PB", 24, 5, false, "", "", 24⟩] by kernel_rfl]
  exact eq_step (by decide) Tryd.underlying3 (part_int 0 Tryd.underlying3 rfl) (eq_step (by decide) Tryd.underlying24 (part_int 1 Tryd.underlying24 rfl) (eq_step (by decide) Tryd.underlying24 (part_int 2 Tryd.underlying24 rfl) (eq_step (by decide) Tryd.underlying24 (part_int 3 Tryd.underlying24 rfl) (eq_step (by decide) Tryd.underlying24 (part_int 4 Tryd.underlying24 rfl) (eq_step (by decide) Tryd.underlying24 (part_int 5 Tryd.underlying24 rfl) rfl)))))
/-! Words and numbers at a place -/
theorem tw_is {p : UInt8 → Bool} : ∀ {l : List UInt8} {n : Nat}, (∀ j, j < n → p (l.getD j 0) = true) → n ≤ l.length → (l.length ≤ n ∨ p (l.getD n 0) = false) → l.takeWhile p = l.take n ∧ l.dropWhile p = l.drop n
  | [], n, _, hn, _ => by simp
  | c :: l, 0, _, _, h => by
    have hc : p c = false := by
      rcases h with h | h
      · simp at h
      · simpa using h
    rw [List.takeWhile_cons, List.dropWhile_cons, if_neg (by rw [hc]; decide), if_neg (by rw [hc]; decide)]; exact ⟨rfl, rfl⟩
  | c :: l, n + 1, h1, hn, h => by
    have hc : p c = true := by simpa using h1 0 (by omega)
    have ih := tw_is (p := p) (l := l) (n := n) (fun j hj => by simpa using h1 (j + 1) (by omega)) (by simpa using hn) (by
      rcases h with h | h
      · exact .inl (by simpa using h)
      · exact .inr (by simpa using h))
    rw [List.takeWhile_cons, List.dropWhile_cons, if_pos hc, if_pos hc, ih.1, ih.2]; exact ⟨rfl, rfl⟩
theorem valF_split (a b : List UInt8) : ∀ n, valF n (a ++ b) = valF (valF n a) b := by
  induction a with
  | nil => intro n; rfl
  | cons c a ih => intro n; exact ih _
theorem valF_take {q : List UInt8} {k : Nat} (h : k < q.length) : valF 0 (q.take (k + 1)) = valF 0 (q.take k) * 10 + ((q.getD k 0).toNat - 48) := by
  rw [List.take_succ_eq_append_getElem h, valF_app]
  simp [List.getElem?_eq_getElem h]
/-- The number at a place, as the document takes it. -/
def numA (l : List UInt8) (at_ : Int) : Nat × Int :=
  if at_ < 0 ∨ (l.length : Int) ≤ at_ ∨ l.getD at_.toNat 0 ≠ 32 then (0, -1)
  else if goodD ((l.drop (at_.toNat + 1)).takeWhile isD) then (valF 0 ((l.drop (at_.toNat + 1)).takeWhile isD), at_ + 1 + (((l.drop (at_.toNat + 1)).takeWhile isD).length : Int)) else (0, -1)
theorem numA_out {l : List UInt8} {at_ : Int} (h : at_ < 0 ∨ (l.length : Int) ≤ at_ ∨ l.getD at_.toNat 0 ≠ 32) : numA l at_ = (0, -1) := if_pos h
theorem numA_in {l : List UInt8} {at_ : Int} {q : List UInt8} {k : Nat} (h : ¬ (at_ < 0 ∨ (l.length : Int) ≤ at_ ∨ l.getD at_.toNat 0 ≠ 32)) (hq : l.drop (at_.toNat + 1) = q) (hk : q.takeWhile isD = q.take k) (hkl : k ≤ q.length) :
    numA l at_ = if goodD (q.take k) then (valF 0 (q.take k), at_ + 1 + (k : Int)) else (0, -1) := by
  unfold numA; rw [if_neg h, hq, hk, List.length_take, Nat.min_eq_left hkl]
theorem drop_head {l : List UInt8} {i : Nat} (h : i < l.length) : l.drop i = l.getD i 0 :: l.drop (i + 1) := by
  rw [List.drop_eq_getElem_cons h, List.getD_eq_getElem?_getD, List.getElem?_eq_getElem h]; rfl
theorem dropWhile_drop (p : UInt8 → Bool) (q : List UInt8) : q.dropWhile p = q.drop (q.takeWhile p).length := by
  conv => rhs; rw [← List.takeWhile_append_dropWhile (p := p) (l := q)]
  rw [List.drop_append_of_le_length (by rw [List.takeWhile_append_dropWhile]; exact Nat.le_refl _)]
  rw [List.takeWhile_append_dropWhile, List.drop_length, List.nil_append]
theorem takeWhile_len (p : UInt8 → Bool) (q : List UInt8) : (q.takeWhile p).length ≤ q.length := (List.takeWhile_sublist _).length_le
theorem numA_at {l : List UInt8} {at_ : Nat} (h : at_ ≤ l.length) : match numR (l.drop at_) with
    | none => numA l at_ = (0, -1)
    | some x => ∃ k : Nat, k ≤ l.length ∧ numA l at_ = (x.1, (k : Int)) ∧ x.2 = l.drop k := by
  by_cases hl : at_ < l.length
  · rw [drop_head hl]
    have hn : numR (l.getD at_ 0 :: l.drop (at_ + 1)) = if l.getD at_ 0 = 32 then (if goodD ((l.drop (at_ + 1)).takeWhile isD) then some (valF 0 ((l.drop (at_ + 1)).takeWhile isD), (l.drop (at_ + 1)).dropWhile isD) else none) else none := rfl
    rw [hn]
    by_cases hc : l.getD at_ 0 = 32
    · rw [if_pos hc]
      have hin : ¬ ((at_ : Int) < 0 ∨ (l.length : Int) ≤ (at_ : Int) ∨ l.getD ((at_ : Int)).toNat 0 ≠ 32) := by
        rw [Int.toNat_natCast]; rintro (h | h | h); omega; omega; exact h hc
      have hA : numA l at_ = if goodD ((l.drop (at_ + 1)).takeWhile isD) then (valF 0 ((l.drop (at_ + 1)).takeWhile isD), (at_ : Int) + 1 + (((l.drop (at_ + 1)).takeWhile isD).length : Int)) else (0, -1) := by
        unfold numA; rw [if_neg hin, Int.toNat_natCast]
      by_cases hg : goodD ((l.drop (at_ + 1)).takeWhile isD) = true
      · rw [if_pos hg]
        rw [if_pos hg] at hA
        have h1 := takeWhile_len isD (l.drop (at_ + 1))
        rw [List.length_drop] at h1
        refine ⟨at_ + 1 + ((l.drop (at_ + 1)).takeWhile isD).length, by omega, ?_, ?_⟩
        · rw [hA]; congr 1
        · show (l.drop (at_ + 1)).dropWhile isD = _
          rw [dropWhile_drop, List.drop_drop]
      · rw [if_neg hg]
        rw [if_neg hg] at hA
        exact hA
    · rw [if_neg hc]
      exact numA_out (.inr (.inr (by rw [Int.toNat_natCast]; exact hc)))
  · rw [List.drop_eq_nil_of_le (by omega)]
    exact numA_out (.inr (.inl (by omega)))
/-- Numbers one behind the other. -/
def nthA (l : List UInt8) : Nat → Int → List Nat × Int
  | 0, at_ => ([], at_)
  | k + 1, at_ => ((numA l at_).1 :: (nthA l k (numA l at_).2).1, (nthA l k (numA l at_).2).2)
theorem nthA_neg (l : List UInt8) : ∀ k, (nthA l k (-1)).2 = -1
  | 0 => rfl
  | k + 1 => by
    show (nthA l k (numA l (-1)).2).2 = -1
    rw [numA_out (.inl (by decide))]; exact nthA_neg l k
theorem nthA_ok (l : List UInt8) : ∀ (k at_ : Nat), at_ ≤ l.length → match numsE k (l.drop at_) with
    | none => (nthA l k at_).2 ≠ (l.length : Int)
    | some v => nthA l k at_ = (v, (l.length : Int))
  | 0, at_, h => by
    unfold numsE
    by_cases he : l.drop at_ = []
    · rw [if_pos he]
      have : at_ = l.length := by
        have := List.length_drop (i := at_) (l := l)
        rw [he] at this; simp only [List.length_nil] at this; omega
      show (([], (at_ : Int)) : List Nat × Int) = ([], (l.length : Int))
      rw [this]
    · rw [if_neg he]
      show (at_ : Int) ≠ (l.length : Int)
      intro hx
      have hx2 : at_ = l.length := by omega
      exact he (by rw [hx2, List.drop_length])
  | k + 1, at_, h => by
    have h1 := numA_at h
    show match (numR (l.drop at_)).bind fun x => (numsE k x.2).map (x.1 :: ·) with
      | none => (nthA l (k + 1) at_).2 ≠ (l.length : Int)
      | some v => nthA l (k + 1) at_ = (v, (l.length : Int))
    cases hn : numR (l.drop at_) with
    | none =>
      rw [hn] at h1
      show (nthA l k (numA l at_).2).2 ≠ (l.length : Int)
      rw [show numA l at_ = (0, -1) from h1, show ((0, -1) : Nat × Int).2 = -1 from rfl, nthA_neg]; omega
    | some x =>
      rw [hn] at h1
      obtain ⟨j, hj, hA, hx⟩ := h1
      have ih := nthA_ok l k j hj
      rw [← hx] at ih
      have hA2 : nthA l (k + 1) at_ = (x.1 :: (nthA l k j).1, (nthA l k j).2) := by
        show ((numA l at_).1 :: (nthA l k (numA l at_).2).1, (nthA l k (numA l at_).2).2) = _
        rw [hA]
      rw [hA2]
      show match (numsE k x.2).map (x.1 :: ·) with
        | none => (nthA l k j).2 ≠ (l.length : Int)
        | some v => (x.1 :: (nthA l k j).1, (nthA l k j).2) = (v, (l.length : Int))
      cases he : numsE k x.2 with
      | none => rw [he] at ih; exact ih
      | some v =>
        rw [he] at ih
        show (x.1 :: (nthA l k j).1, (nthA l k j).2) = (x.1 :: v, (l.length : Int))
        rw [show nthA l k j = (v, (l.length : Int)) from ih]
/-- The document's One. -/
def wdL (l : List UInt8) : Nat := (l.takeWhile notB).length
def kdL (l : List UInt8) : Int := kindW (l.takeWhile notB)
def oneV (l : List UInt8) : Stp × Bool :=
  if kdL l = 0 then (sz0, false)
  else (mkS (kdL l) (nthA l (wantN (kdL l)) (wdL l)).1, decide ((nthA l (wantN (kdL l)) (wdL l)).2 = (l.length : Int)))
theorem oneV_ok (l : List UInt8) : oneR l = if (oneV l).2 then some (oneV l).1 else none := by
  unfold oneV oneR
  by_cases hk : kindW (l.takeWhile notB) = 0
  · rw [if_pos hk, if_pos (show kdL l = 0 from hk)]; rfl
  · rw [if_neg hk, if_neg (show ¬ kdL l = 0 from hk)]
    have h1 := nthA_ok l (wantN (kdL l)) (wdL l) (takeWhile_len _ _)
    rw [show l.drop (wdL l) = l.dropWhile notB from (dropWhile_drop _ _).symm] at h1
    show (numsE (wantN (kdL l)) (l.dropWhile notB)).map (mkS (kdL l)) = _
    cases he : numsE (wantN (kdL l)) (l.dropWhile notB) with
    | none =>
      rw [he] at h1
      rw [if_neg (by simpa using h1)]; rfl
    | some v =>
      rw [he] at h1
      rw [show nthA l (wantN (kdL l)) (wdL l) = (v, (l.length : Int)) from h1, if_pos (by simp)]; rfl

end Go.Proofs.YtoopekjbikcebaaDoor
