/- space: what is taken and given back, in plain words. -/
import Derived.Test.YtmkefcjphdaoiaaSpF
namespace Go.Proofs.Ytmkefcjphdaoiaa
open K
set_option linter.unusedVariables false

def cov (ls : List (Nat × Nat)) (p : Nat) : Bool := ls.any fun r => decide (r.1 ≤ p) && decide (p < r.1 + r.2)
theorem cov_app (a b : List (Nat × Nat)) (p : Nat) : cov (a ++ b) p = (cov a p || cov b p) := by simp [cov]
theorem cov_cons (r : Nat × Nat) (b : List (Nat × Nat)) (p : Nat) : cov (r :: b) p = ((decide (r.1 ≤ p) && decide (p < r.1 + r.2)) || cov b p) := by simp [cov]
theorem cov_mem {ls : List (Nat × Nat)} {r : Nat × Nat} (hr : r ∈ ls) {p : Nat} (h : r.1 ≤ p ∧ p < r.1 + r.2) : cov ls p = true := List.any_eq_true.2 ⟨r, hr, by simp [h.1, h.2]⟩
def apart2 (r s : Nat × Nat) : Prop := r.1 + r.2 ≤ s.1 ∨ s.1 + s.2 ≤ r.1
theorem cov_not {ls : List (Nat × Nat)} {s : Nat × Nat} (h : ∀ r ∈ ls, apart2 r s) {p : Nat} (hp : s.1 ≤ p ∧ p < s.1 + s.2) : cov ls p = false := by
  cases hc : cov ls p with
  | false => rfl
  | true =>
    obtain ⟨r, hr, hb⟩ := List.any_eq_true.1 hc
    simp only [Bool.and_eq_true, decide_eq_true_eq] at hb
    have := h r hr
    unfold apart2 at this
    omega
structure Inv (N : Nat) (fr : List Bool) (ls : List (Nat × Nat)) : Prop where
  len : fr.length = N
  at_ : ∀ p, p < N → fr.getD p false = !cov ls p
structure DJ (N : Nat) (ls : List (Nat × Nat)) : Prop where
  all : ∀ r ∈ ls, 0 < r.2 ∧ r.1 + r.2 ≤ N
  pw : ls.Pairwise apart2
theorem Inv.start (N : Nat) : Inv N (List.replicate N true) [] := ⟨List.length_replicate, fun p hp => by simp [cov, List.getD_eq_getElem?_getD, hp]⟩
theorem Inv.full {N : Nat} {fr : List Bool} (h : Inv N fr []) : fr = List.replicate N true := by
  apply List.ext_getElem?
  intro p
  have hl := h.len
  by_cases hp : p < N
  · have h1 := h.at_ p hp
    rw [List.getD_eq_getElem?_getD, List.getElem?_eq_getElem (by omega), Option.getD_some] at h1
    rw [List.getElem?_eq_getElem (by omega), h1, List.getElem?_replicate, if_pos hp]; rfl
  · rw [List.getElem?_eq_none (by omega), List.getElem?_eq_none (by rw [List.length_replicate]; omega)]
theorem DJ.nil (N : Nat) : DJ N [] := ⟨(fun r h => by cases h), List.Pairwise.nil⟩
theorem take_apart {N : Nat} {fr : List Bool} {ls : List (Nat × Nat)} {k n : Nat} (hi : Inv N fr ls) (hd : DJ N ls) (hn : 0 < n) (hk : k + n ≤ N) (ht : ∀ j, k ≤ j → j < k + n → fr.getD j false = true) : ∀ r ∈ ls, apart2 r (k, n) := by
  intro r hr
  have h0 := hd.all r hr
  unfold apart2
  rcases Nat.lt_or_ge k (r.1 + r.2) with h1 | h1
  · rcases Nat.lt_or_ge r.1 (k + n) with h2 | h2
    · exfalso
      have h3 := ht (max r.1 k) (by omega) (by omega)
      rw [hi.at_ _ (by omega), cov_mem hr (by omega)] at h3
      cases h3
    · right; exact h2
  · left; exact h1
theorem inv_take {N : Nat} {fr : List Bool} {ls : List (Nat × Nat)} {k n : Nat} (hi : Inv N fr ls) (hd : DJ N ls) (hn : 0 < n) (hk : k + n ≤ N) (ht : ∀ j, k ≤ j → j < k + n → fr.getD j false = true) : Inv N (fill fr k n false) (ls ++ [(k, n)]) ∧ DJ N (ls ++ [(k, n)]) := by
  have ha := take_apart hi hd hn hk ht
  refine ⟨⟨by rw [fill_len]; exact hi.len, fun p hp => ?_⟩, ⟨fun r hr => ?_, ?_⟩⟩
  · rw [fill_getD _ _ _ _ _ (by rw [hi.len]; exact hk), cov_app, cov_cons]
    by_cases h : k ≤ p ∧ p < k + n
    · rw [if_pos h]; simp [h.1, h.2]
    · rw [if_neg h, hi.at_ p hp]
      have : (decide (k ≤ p) && decide (p < k + n)) = false := by
        rw [Bool.and_eq_false_iff]
        by_cases h1 : k ≤ p
        · right; simp only [decide_eq_false_iff_not]; omega
        · left; simp only [decide_eq_false_iff_not]; exact h1
      simp only [this]
      simp [cov]
  · rcases List.mem_append.1 hr with hr | hr
    · exact hd.all r hr
    · rw [List.mem_singleton.1 hr]; exact ⟨hn, hk⟩
  · exact List.pairwise_append.2 ⟨hd.pw, List.pairwise_singleton _ _, fun a h1 b h2 => by rw [List.mem_singleton.1 h2]; exact ha a h1⟩
theorem count_set : ∀ (l : List Bool) (i : Nat), i < l.length → l.getD i false = true → (l.set i false).count true + 1 = l.count true
  | [], i, h, _ => by simp at h
  | b :: l, 0, _, h => by
    have hb : b = true := by simpa using h
    subst hb; simp
  | b :: l, i + 1, h, ht => by
    have h1 := count_set l i (by simpa using h) (by simpa using ht)
    simp only [List.set_cons_succ, List.count_cons]
    omega
theorem fill_count : ∀ (n : Nat) (fr : List Bool) (k : Nat), k + n ≤ fr.length → (∀ j, k ≤ j → j < k + n → fr.getD j false = true) → (fill fr k n false).count true + n = fr.count true
  | 0, fr, k, _, _ => rfl
  | n + 1, fr, k, h, ht => by
    have h1 := count_set fr k (by omega) (ht k (Nat.le_refl _) (by omega))
    have h2 := fill_count n (fr.set k false) (k + 1) (by rw [List.length_set]; omega) (fun j hj hj2 => by rw [getD_set _ _ _ _ (by omega), if_neg (by omega)]; exact ht j (by omega) (by omega))
    rw [fill]; omega
def tr (f : Int) (r : Nat × Nat) : Int × Int := (f + (r.1 : Int), (r.2 : Int))
theorem give_all {f : Int} {N : Nat} : ∀ {L : List (Nat × Nat)} {fr : List Bool}, Inv N fr L → DJ N L → turnF f N true (L.map (tr f)) fr = (0, List.replicate N true)
  | [], fr, hi, _ => by rw [hi.full]; rfl
  | (k, n) :: L, fr, hi, hd => by
    obtain ⟨h1, h2⟩ := hd.all _ (List.mem_cons_self ..)
    obtain ⟨h3, h4⟩ := List.pairwise_cons.1 hd.pw
    simp only at h1 h2
    have hl := hi.len
    have h5 := turn_one (f := f) (fr := fr) (to := true) (k := k) h1 (fun j hj hj2 => ⟨by omega, by rw [hi.at_ j (by omega), cov_mem (List.mem_cons_self ..) ⟨hj, hj2⟩]⟩) (L.map (tr f))
    rw [hl] at h5
    rw [List.map_cons, show tr f (k, n) = (f + (k : Int), (n : Int)) from rfl, h5]
    refine give_all ⟨by rw [fill_len]; exact hl, fun p hp => ?_⟩ ⟨fun r hr => hd.all r (List.mem_cons_of_mem _ hr), h4⟩
    rw [fill_getD _ _ _ _ _ (by omega)]
    by_cases h : k ≤ p ∧ p < k + n
    · rw [if_pos h, cov_not (s := (k, n)) (fun r hr => by have := h3 r hr; unfold apart2 at this ⊢; omega) h]; rfl
    · rw [if_neg h, hi.at_ p hp, cov_cons]
      have : (decide (k ≤ p) && decide (p < k + n)) = false := by
        rw [Bool.and_eq_false_iff]
        by_cases h1 : k ≤ p
        · right; simp only [decide_eq_false_iff_not]; omega
        · left; simp only [decide_eq_false_iff_not]; exact h1
      simp only [this, Bool.false_or]
theorem give_there {f : Int} {N k n : Nat} (hn : 0 < n) (hk : k + n ≤ N) : (turnF f N true [(f + (k : Int), (n : Int))] (List.replicate N true)).1 = 17 := by
  have hin : inP f N (f + (k : Int)) = true := by unfold inP; simp; omega
  obtain ⟨m, rfl⟩ : ∃ m, n = m + 1 := ⟨n - 1, by omega⟩
  have hL : loopF true k (m + 1) 0 (List.replicate N true) = (17, List.replicate N true) := by
    have hg : (List.replicate N true).getD (k + 0) false = true := by
      rw [List.getD_eq_getElem?_getD, List.getElem?_replicate, if_pos (by omega)]; rfl
    rw [loopF, if_neg (by rw [List.length_replicate]; omega), hg, if_pos (show (true == true) = true from rfl)]
  rw [turnF, if_neg (by simp only; omega), if_pos hin]
  have e : (f + (k : Int) - f).toNat = k := by omega
  simp only [e, Int.toNat_natCast]
  rw [hL, if_neg (by simp)]
/-- The first and another one change places. -/
def swp (ls : List (Nat × Nat)) (i : Nat) : List (Nat × Nat) := (ls.set 0 (ls.getD i (0, 0))).set i (ls.getD 0 (0, 0))
theorem swp_len (ls : List (Nat × Nat)) (i : Nat) : (swp ls i).length = ls.length := by simp [swp]
theorem swp_perm {ls : List (Nat × Nat)} {i : Nat} (h : i < ls.length) : (swp ls i).Perm ls := by
  unfold swp
  rw [List.getD_eq_getElem?_getD, List.getElem?_eq_getElem h, List.getD_eq_getElem?_getD, List.getElem?_eq_getElem (by omega), Option.getD_some, Option.getD_some]
  exact List.set_set_perm (by omega) h
theorem Inv.perm {N : Nat} {fr : List Bool} {a b : List (Nat × Nat)} (h : Inv N fr a) (hp : b.Perm a) : Inv N fr b := ⟨h.len, fun p hpN => by rw [h.at_ p hpN]; unfold cov; rw [hp.any_eq]⟩
theorem DJ.perm {N : Nat} {a b : List (Nat × Nat)} (h : DJ N a) (hp : b.Perm a) : DJ N b := ⟨fun r hr => h.all r (hp.mem_iff.1 hr), (hp.pairwise_iff (fun {x y} hxy => by unfold apart2 at hxy ⊢; omega)).2 h.pw⟩
/-- Runs as cells. -/
def rv (f : Int) (ls : List (Nat × Nat)) : List Value := ls.flatMap fun r => [.int .i64 (f + (r.1 : Int)), .int .i64 (r.2 : Int)]
theorem rv_cons (f : Int) (r : Nat × Nat) (ls : List (Nat × Nat)) : rv f (r :: ls) = .int .i64 (f + (r.1 : Int)) :: .int .i64 (r.2 : Int) :: rv f ls := rfl
theorem rv_app (f : Int) (a b : List (Nat × Nat)) : rv f (a ++ b) = rv f a ++ rv f b := by simp [rv]
theorem rv_len (f : Int) : ∀ ls : List (Nat × Nat), (rv f ls).length = ls.length * 2
  | [] => rfl
  | r :: ls => by rw [rv_cons, List.length_cons, List.length_cons, rv_len f ls, List.length_cons]; omega
theorem rv_snoc (f : Int) (ls : List (Nat × Nat)) (k n : Nat) : rv f ls ++ [.int .i64 (f + (k : Int)), .int .i64 (n : Int)] = rv f (ls ++ [(k, n)]) := by rw [rv_app]; rfl
theorem rv_get (f : Int) : ∀ (ls : List (Nat × Nat)) (i : Nat), i < ls.length → (rv f ls)[i * 2]? = some (.int .i64 (f + ((ls.getD i (0, 0)).1 : Int))) ∧ (rv f ls)[i * 2 + 1]? = some (.int .i64 ((ls.getD i (0, 0)).2 : Int))
  | [], i, h => by simp at h
  | r :: ls, 0, _ => ⟨rfl, rfl⟩
  | r :: ls, i + 1, h => by
    have h1 := rv_get f ls i (by simpa using h)
    rw [rv_cons, show (i + 1) * 2 = i * 2 + 1 + 1 by omega]
    simp only [List.getElem?_cons_succ, List.getD_cons_succ]
    exact h1
theorem rv_cell (f : Int) (ls : List (Nat × Nat)) (j : Nat) (h : j < 2 * ls.length) : (rv f ls)[j]? = some (rcell (ls.map (tr f)) j) := by
  have h1 := rv_get f ls (j / 2) (by omega)
  have e : (ls.map (tr f)).getD (j / 2) (0, 0) = tr f (ls.getD (j / 2) (0, 0)) := by
    rw [List.getD_eq_getElem?_getD, List.getElem?_map, List.getD_eq_getElem?_getD, List.getElem?_eq_getElem (show j / 2 < ls.length by omega)]; rfl
  unfold rcell ra rl
  rw [e]
  by_cases h2 : j % 2 = 0
  · rw [if_pos h2]; rw [show j / 2 * 2 = j by omega] at h1; exact h1.1
  · rw [if_neg h2]; rw [show j / 2 * 2 + 1 = j by omega] at h1; exact h1.2
theorem rv_at {P : Program} {w : World} {f : Int} {ls : List (Nat × Nat)} {lj : List Value} {lb t : Nat} (h : w.heap[lb]? = some (.cells (rv f ls ++ lj).toArray t (0, 0))) {ty : TypeId} {d : TypeDesc} (hu : P.underlying ty = some d) (hd : (match d with | .struct _ | .array _ _ => true | _ => false) = true) (hi : (P.info? ty).map (·.size) = some 2) {i : Nat} (hl : i < ls.length) :
    (loadVar ty ⟨lb, i * 2, none⟩).run P w = .ok (.agg #[.int .i64 (f + ((ls.getD i (0, 0)).1 : Int)), .int .i64 ((ls.getD i (0, 0)).2 : Int)]) w := by
  have h1 := rv_get f ls i hl
  have hlen := rv_len f ls
  refine load_run hu hd hi ?_ ?_
  · rw [cell_cells h, List.getElem?_toArray, List.getElem?_append_left (by omega)]; exact h1.1
  · rw [cell_cells h, List.getElem?_toArray, List.getElem?_append_left (by omega)]; exact h1.2
theorem rv_spl (f : Int) (ls : List (Nat × Nat)) (lj : List Value) (i : Nat) (r : Nat × Nat) (h : i < ls.length) : spl (rv f ls ++ lj).toArray (i * 2) [.int .i64 (f + (r.1 : Int)), .int .i64 (r.2 : Int)] = (rv f (ls.set i r) ++ lj).toArray := by
  have e1 : ls = ls.take i ++ (ls[i] :: ls.drop (i + 1)) := by rw [← List.drop_eq_getElem_cons h, List.take_append_drop]
  have e2 : ls.set i r = ls.take i ++ (r :: ls.drop (i + 1)) := by rw [List.set_eq_take_append_cons_drop, if_pos h]
  have h0 : (rv f (ls.take i)).length = i * 2 := by rw [rv_len, List.length_take]; omega
  have h3 : rv f ls ++ lj = rv f (ls.take i) ++ [.int .i64 (f + ((ls[i]).1 : Int)), .int .i64 ((ls[i]).2 : Int)] ++ (rv f (ls.drop (i + 1)) ++ lj) := by
    conv => lhs; rw [e1]
    rw [rv_app, rv_cons]; simp
  have h4 : rv f (ls.set i r) ++ lj = rv f (ls.take i) ++ [.int .i64 (f + (r.1 : Int)), .int .i64 (r.2 : Int)] ++ (rv f (ls.drop (i + 1)) ++ lj) := by
    rw [e2, rv_app, rv_cons]; simp
  rw [h3, h4, ← h0]
  exact spl_list _ _ _ _ rfl
theorem rv_ins {f : Int} {ls : List (Nat × Nat)} {lj : List Value} {lb t : Nat} : InS [(lb, .cells (rv f ls ++ lj).toArray t (0, 0))] (some ⟨lb, 0, none⟩) (2 * (ls.map (tr f)).length) (rcell (ls.map (tr f))) := by
  intro _
  refine ⟨lb, 0, _, t, (0, 0), rfl, List.mem_cons_self .., fun j hj => ?_⟩
  rw [List.length_map] at hj
  rw [Nat.zero_add, List.getElem?_toArray, List.getElem?_append_left (by rw [rv_len]; omega)]
  exact rv_cell f ls j hj
def suma (ls : List (Nat × Nat)) : Nat := (ls.map (·.2)).sum
theorem suma_app (a : List (Nat × Nat)) (k n : Nat) : suma (a ++ [(k, n)]) = suma a + n := by simp [suma]
theorem suma_take (ls : List (Nat × Nat)) (i : Nat) (h : i < ls.length) : suma (ls.take (i + 1)) = suma (ls.take i) + (ls.getD i (0, 0)).2 := by
  rw [List.take_succ_eq_append_getElem h, show ls[i] = ((ls[i]).1, (ls[i]).2) from rfl, suma_app, List.getD_eq_getElem?_getD, List.getElem?_eq_getElem h]; rfl
theorem suma_take_le (ls : List (Nat × Nat)) (i : Nat) : suma (ls.take i) ≤ suma ls := by
  conv => rhs; rw [← List.take_append_drop i ls]
  unfold suma
  rw [List.map_append, List.sum_append]; omega
end Go.Proofs.Ytmkefcjphdaoiaa
