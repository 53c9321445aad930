/- refs: a branch that is moved, and moved back, in plain words. -/
import Derived.Test.YtejgpniaoccpoaaRf8
namespace Go.Proofs.Ytejgpniaoccpoaa
open K
set_option linter.unusedVariables false

theorem fidx_nil (p : Rf → Bool) : fidx p [] = -1 := rfl
theorem fidx_uniq {p : Rf → Bool} {l : List Rf} {i : Nat} (hi : i < l.length) (hp : p (l.getD i rz) = true) (h : ∀ j, j < i → p (l.getD j rz) = false) : fidx p l = (i : Int) := fidx_at hi h hp
structure SOk (s : RSt) : Prop where
  w : W32 s.l
  m : s.m = []
  len : s.l.length ≤ 16
  nz : ∀ r ∈ s.l, r.2 ≠ D0
theorem getD_mem {l : List Rf} {i : Nat} (h : i < l.length) : l.getD i rz ∈ l := by
  rw [List.getD_eq_getElem?_getD, List.getElem?_eq_getElem h]; exact List.getElem_mem h
theorem SOk.mv {s : RSt} {n : ByteArray} {fr tt : List UInt8} (h : SOk s) (ht : tt.length = 32) (he : mvE s n fr tt = 0) : SOk (mvS s n fr tt) := by
  unfold mvS
  rw [if_pos he]
  have hlen : ¬ tt = D0 → ¬ 0 ≤ fidx (pEq n) s.l → ¬ 16 ≤ s.l.length := by
    intro h1 h2 h3
    unfold mvE at he
    split at he
    · cases he
    · split at he
      · cases he
      · split at he
        · cases he
        · first | (rw [if_neg h1, if_neg h2, if_pos h3] at he; cases he) | cases he
  have hj := fidx_lt (pEq n) s.l
  refine ⟨?_, h.m, ?_, ?_⟩
  · show W32 (mvL s.l n tt)
    unfold mvL
    split
    · split
      · exact fun x hx => h.w x (List.mem_of_mem_eraseIdx hx)
      · exact h.w
    · split
      · intro x hx
        rcases List.mem_or_eq_of_mem_set hx with hx | rfl
        · exact h.w x hx
        · exact ht
      · exact h.w.ins ht _
  · show (mvL s.l n tt).length ≤ 16
    have := h.len
    unfold mvL
    split
    · split
      · exact Nat.le_trans (List.length_eraseIdx_le ..) this
      · exact this
    · rename_i h1
      split
      · rw [List.length_set]; exact this
      · rename_i h2
        rw [insF_len _ (withI_le _ _)]
        have := hlen h1 h2
        omega
  · show ∀ r ∈ mvL s.l n tt, r.2 ≠ D0
    unfold mvL
    split
    · split
      · exact fun x hx => h.nz x (List.mem_of_mem_eraseIdx hx)
      · exact h.nz
    · rename_i h1
      split
      · intro x hx
        rcases List.mem_or_eq_of_mem_set hx with hx | rfl
        · exact h.nz x hx
        · exact h1
      · intro x hx
        unfold insF at hx
        rcases List.mem_append.1 hx with hx | hx
        · exact h.nz x (List.mem_of_mem_take hx)
        · rcases List.mem_cons.1 hx with rfl | hx
          · exact h1
          · exact h.nz x (List.mem_of_mem_drop hx)
theorem mvE_bad {s : RSt} {n : ByteArray} {tt : List UInt8} (h : SOk s) (he : mvE s n (atF s.l n) tt ≠ 0) : mvE s n (atF s.l n) tt = 12 ∨ (mvE s n (atF s.l n) tt = 6 ∧ s.l.length = 16) := by
  have hl := h.len
  unfold mvE at he ⊢
  rw [h.m, fidx_nil] at he ⊢
  split
  · exact .inl rfl
  · rename_i h1
    rw [if_neg h1, if_neg (by decide), if_neg (by simp)] at he
    rw [if_neg (by decide), if_neg (by simp)]
    split
    · rename_i h2; rw [if_pos h2] at he; exact absurd rfl he
    · rename_i h2
      rw [if_neg h2] at he
      split
      · rename_i h3; rw [if_pos h3] at he; exact absurd rfl he
      · rename_i h3
        rw [if_neg h3] at he
        split
        · exact .inr ⟨rfl, by omega⟩
        · rename_i h4; rw [if_neg h4] at he; exact absurd rfl he
theorem mvE_ok {s : RSt} {n : ByteArray} {fr tt : List UInt8} (he : mvE s n fr tt = 0) : refB n = true := by
  unfold mvE at he
  split at he
  · cases he
  · rename_i h; simpa using h
/-- The branch is where it was moved to; moved back, the row is as it was. -/
theorem mv_back {s : RSt} {n : ByteArray} {tt : List UInt8} (h : SOk s) (ht : tt ≠ D0) (he : mvE s n (atF s.l n) tt = 0) :
    atF (mvL s.l n tt) n = tt ∧ 0 ≤ fidx (pEq n) (mvL s.l n tt) ∧ mvL (mvL s.l n tt) n (atF s.l n) = s.l := by
  have hself : pEq n (n, tt) = true := by unfold pEq; exact beq_self_eq_true _
  rcases fidx_cases (pEq n) s.l with ⟨h1, h2⟩ | ⟨i, h1, h2, h3, h4⟩
  · have hneg : ¬ 0 ≤ fidx (pEq n) s.l := by omega
    have hL : mvL s.l n tt = insF s.l (withI s.l (n, tt)) (n, tt) := by unfold mvL; rw [if_neg ht, if_neg hneg]
    have hk := withI_le s.l (n, tt)
    generalize withI s.l (n, tt) = k at hL hk
    have hat : atF s.l n = D0 := by unfold atF; rw [if_pos (by omega)]; rfl
    have hget : (insF s.l k (n, tt)).getD k rz = (n, tt) := by
      unfold insF
      rw [List.getD_eq_getElem?_getD, List.getElem?_append_right (by rw [List.length_take]; omega), List.length_take, show k - min k s.l.length = 0 by omega]; rfl
    have hf : fidx (pEq n) (insF s.l k (n, tt)) = (k : Int) := by
      refine fidx_uniq (by rw [insF_len _ hk]; omega) (by rw [hget]; exact hself) fun j hj => ?_
      have : (insF s.l k (n, tt)).getD j rz = s.l.getD j rz := by
        unfold insF
        rw [List.getD_eq_getElem?_getD, List.getElem?_append_left (by rw [List.length_take]; omega), List.getElem?_take, if_pos hj, List.getD_eq_getElem?_getD]
      rw [this]
      exact h2 _ (getD_mem (by omega))
    have her : (insF s.l k (n, tt)).eraseIdx k = s.l := by
      unfold insF
      rw [List.eraseIdx_append_of_length_le (by rw [List.length_take]; omega), List.length_take, show k - min k s.l.length = 0 by omega, List.eraseIdx_cons_zero, List.take_append_drop]
    rw [hL, hat]
    refine ⟨?_, by omega, ?_⟩
    · unfold atF; rw [hf, if_neg (by omega), Int.toNat_natCast, hget]
    · unfold mvL; rw [if_pos rfl, hf, if_pos (by omega), Int.toNat_natCast, her]
  · have hpos : 0 ≤ fidx (pEq n) s.l := by omega
    have hL : mvL s.l n tt = s.l.set i ((s.l.getD i rz).1, tt) := by unfold mvL; rw [if_neg ht, if_pos hpos, h1, Int.toNat_natCast]
    have hat : atF s.l n = (s.l.getD i rz).2 := by unfold atF; rw [if_neg (by omega), h1, Int.toNat_natCast]
    have hget : (s.l.set i ((s.l.getD i rz).1, tt)).getD i rz = ((s.l.getD i rz).1, tt) := by
      rw [List.getD_eq_getElem?_getD, List.getElem?_set, if_pos rfl, if_pos h2]; rfl
    have hf : fidx (pEq n) (s.l.set i ((s.l.getD i rz).1, tt)) = (i : Int) := by
      refine fidx_uniq (by rw [List.length_set]; exact h2) (by rw [hget]; exact h3) fun j hj => ?_
      rw [List.getD_eq_getElem?_getD, List.getElem?_set, if_neg (by omega), ← List.getD_eq_getElem?_getD]
      exact h4 j hj
    have hnz : ¬ (s.l.getD i rz).2 = D0 := h.nz _ (getD_mem h2)
    rw [hL, hat]
    refine ⟨?_, by omega, ?_⟩
    · unfold atF; rw [hf, if_neg (by omega), Int.toNat_natCast, hget]
    · unfold mvL
      rw [if_neg hnz, hf, if_pos (by omega), Int.toNat_natCast, hget, List.set_set]
      have : ((s.l.getD i rz).1, (s.l.getD i rz).2) = s.l[i] := by rw [List.getD_eq_getElem?_getD, List.getElem?_eq_getElem h2]; rfl
      simp only [this]
      exact List.set_getElem_self h2
theorem mv_back2 {s : RSt} {n : ByteArray} {tt ot : List UInt8} (h : SOk s) (ht : tt ≠ D0) (he : mvE s n (atF s.l n) tt = 0) :
    mvE (mvS s n (atF s.l n) tt) n ot (atF s.l n) = (if ot = tt then 0 else 29) ∧ mvS (mvS s n (atF s.l n) tt) n tt (atF s.l n) = s := by
  obtain ⟨h1, h2, h3⟩ := mv_back h ht he
  have hr := mvE_ok he
  have hs : mvS s n (atF s.l n) tt = ⟨s.hd, mvL s.l n tt, s.m, s.nx⟩ := by unfold mvS; rw [if_pos he]
  have hE : ∀ ot, mvE (mvS s n (atF s.l n) tt) n ot (atF s.l n) = (if ot = tt then 0 else 29) := by
    intro ot
    rw [hs]
    unfold mvE
    simp only [h.m, fidx_nil, h1]
    rw [if_neg (by rw [hr]; decide), if_neg (by decide)]
    by_cases ho : ot = tt
    · rw [if_neg (by simp [ho]), if_pos ho]
      split
      · rfl
      · first | rfl | rw [if_pos h2]
    · rw [if_pos (fun h => ho h.symm), if_neg ho]
  refine ⟨hE ot, ?_⟩
  have hE2 := hE tt
  rw [if_pos rfl] at hE2
  unfold mvS at hE2 ⊢
  rw [if_pos he] at hE2 ⊢
  rw [if_pos hE2]
  simp only [h3]
theorem fm_get {α : Type} (f : α → List Value) (sz : Nat) (d : α) : ∀ {l : List α}, (∀ x ∈ l, (f x).length = sz) → ∀ {i j : Nat}, i < l.length → j < sz → (l.flatMap f)[i * sz + j]? = (f (l.getD i d))[j]?
  | [], _, i, j, hi, _ => by simp at hi
  | x :: l, h, i, j, hi, hj => by
    have hx := h x (List.mem_cons_self ..)
    rw [List.flatMap_cons]
    cases i with
    | zero => rw [Nat.zero_mul, Nat.zero_add, List.getElem?_append_left (by omega)]; rfl
    | succ i =>
      rw [List.getElem?_append_right (by rw [hx, Nat.succ_mul]; omega), hx, show (i + 1) * sz + j - sz = i * sz + j by rw [Nat.succ_mul]; omega]
      exact fm_get f sz d (fun y hy => h y (List.mem_cons_of_mem _ hy)) (by simpa using hi) hj
/-- An act as it is told. -/
structure AcT where
  d : Int
  nm : ByteArray
  f : Int
  t : List UInt8
def az : AcT := ⟨0, ByteArray.empty, 0, List.replicate 32 0⟩
def ac (a : AcT) : List Value := .int .i64 a.d :: .string a.nm :: .int .i64 a.f :: (bv a.t).toList
def A32 (l : List AcT) : Prop := ∀ a ∈ l, a.t.length = 32 ∧ a.nm.size ≤ maxLen
theorem ac_len {a : AcT} (h : a.t.length = 32) : (ac a).length = 35 := by unfold ac; simp [bv, h]
theorem ac_all (a : AcT) : ∀ v ∈ (ac a), one v = true := by
  intro v hv
  rcases List.mem_cons.1 hv with rfl | hv
  · rfl
  · rcases List.mem_cons.1 hv with rfl | hv
    · rfl
    · rcases List.mem_cons.1 hv with rfl | hv
      · rfl
      · exact all_bv _ v hv
theorem A32.at {l : List AcT} (h : A32 l) (i : Nat) : (l.getD i az).t.length = 32 := by
  rw [List.getD_eq_getElem?_getD]
  by_cases hi : i < l.length
  · rw [List.getElem?_eq_getElem hi]; exact (h _ (List.getElem_mem hi)).1
  · rw [List.getElem?_eq_none (by omega)]; rfl
theorem A32.nm {l : List AcT} (h : A32 l) (i : Nat) : (l.getD i az).nm.size ≤ maxLen := by
  rw [List.getD_eq_getElem?_getD]
  by_cases hi : i < l.length
  · rw [List.getElem?_eq_getElem hi]; exact (h _ (List.getElem_mem hi)).2
  · rw [List.getElem?_eq_none (by omega)]; exact Nat.zero_le _
theorem act_cell {l : List AcT} {cs : Array Value} {off i : Nat} (hA : A32 l) (hcs : ∀ j, j < l.length * 35 → cs[off + j]? = some ((l.flatMap ac).getD j undef)) (hi : i < l.length) {j : Nat} {v : Value} (hv : (ac (l.getD i az))[j]? = some v) : cs[off + i * 35 + j]? = some v := by
  have hj : j < 35 := by
    have := (List.getElem?_eq_some_iff.1 hv).1
    rw [ac_len (hA.at i)] at this; exact this
  rw [Nat.add_assoc, hcs (i * 35 + j) (by omega), List.getD_eq_getElem?_getD, fm_get ac 35 az (fun x hx => ac_len (hA x hx).1) hi hj, hv]; rfl
theorem act_bytes {w : World} {b : Nat} {a : AcT} {t : TypeId} {fr : Nat × Nat} (ha : a.t.length = 32) (h : w.heap[b]? = some (.cells (ac a).toArray t fr)) (j : Nat) (hj : j < 32) : w.cell? ⟨b, 3 + j, none⟩ = some (.int .u8 ((a.t.getD j 0).toNat : Int)) := by
  rw [cell_cells h, List.getElem?_toArray, show 3 + j = j + 1 + 1 + 1 by omega]
  show (bv a.t).toList[j]? = _
  rw [Array.getElem?_toList]; exact bv_get ha hj
theorem zsz24 : (bv (List.replicate 32 0)).size = 32 := rfl
def s0 : RSt := ⟨⟨#[109, 97, 105, 110]⟩, [], [], 1⟩
theorem s0_ok : SOk s0 := ⟨W32.nil, rfl, Nat.zero_le _, fun r h => by cases h⟩

set_option maxRecDepth 100000 in
theorem rNew (w : World) :
    Calls Try.prog 13 #[] w fun e w' => e = .returned (.agg #[.string ⟨#[109, 97, 105, 110]⟩, .slice none 0 0, .slice none 0 0, .int .u64 1]) ∧ Ext [] w w' := by
  refine enter (vs := []) [] [] [] Try.func13 rfl (by kernel_rfl) (HP.start w) ?_
  refine Cfg.begL rfl ?_
  refine CfgL.eff (o := _) rfl (by kernel_rfl) (by kernel_rfl) (Eff.alloc (z := (.agg #[.string ByteArray.empty, .slice none 0 0, .slice none 0 0, .int .u64 0])) rfl (by kernel_rfl)) ?_
  rintro b1 ⟨hb1, nb1⟩
  refine CfgL.done rfl ?_
  refine Cfg.begL rfl ?_
  refine CfgL.pure 1 [(0, false, some (.agg #[.string ⟨#[109, 97, 105, 110]⟩, .slice none 0 0, .slice none 0 0, .int .u64 1]))] none (Γ' := [(1, [], .agg #[.string ⟨#[109, 97, 105, 110]⟩, .slice none 0 0, .slice none 0 0, .int .u64 1]), (0, [], .pointer (some ⟨b1, 0, none⟩))]) (nd := (fun S => [(∀ w1, S w1 → (Instr.build 25 #[(0, .string ⟨#[109, 97, 105, 110]⟩), (3, .int .u64 1)]).run Try.prog w1 = .ok (.agg #[.string ⟨#[109, 97, 105, 110]⟩, .slice none 0 0, .slice none 0 0, .int .u64 1]) w1)])) (by kernel_rfl) (fun _ => by kernel_rfl) ⟨(fun _ _ => by kernel_rfl), trivial⟩ ?_
  refine CfgL.eff (o := _) rfl (by kernel_rfl) (by kernel_rfl) (Eff.storeN (b := b1) (off := 0) (vs := #[.string ⟨#[109, 97, 105, 110]⟩, .slice none 0 0, .slice none 0 0, .int .u64 1]) (n := 4) rfl (by kernel_rfl) (by kernel_rfl) (by kernel_rfl) rfl (four_one rfl rfl rfl rfl) 0 (cs := #[.string ByteArray.empty, .slice none 0 0, .slice none 0 0, .int .u64 0]) (e := 25) (by kernel_rfl) (Nat.le_refl 4)) ?_
  rintro ⟨⟩ -
  refine CfgL.setO (O' := [(b1, .cells #[.string ⟨#[109, 97, 105, 110]⟩, .slice none 0 0, .slice none 0 0, .int .u64 1] 25 (0, 0))]) (congrArg (fun (xq : Array Value) => ([(b1, .cells xq 25 (0, 0))] : List (Nat × Obj))) (rfl)) ?_
  refine CfgL.done rfl ?_
  refine Conv.cfg (Γ' := [(0, [], .pointer (some ⟨b1, 0, none⟩))]) (Conv.mk (by kernel_rfl)) ?_
  refine Cfg.ret rfl (rs := [.cell 0 25]) rfl [.agg #[.string ⟨#[109, 97, 105, 110]⟩, .slice none 0 0, .slice none 0 0, .int .u64 1]] ⟨⟨_, by kernel_rfl, (fun w1 h => h.oload 0 rfl Try.underlying25 rfl (n := 4) (by kernel_rfl) rfl)⟩, trivial⟩ (fun w1 hp => ?_)
  exact ⟨rfl, hp.ext⟩

end Go.Proofs.Ytejgpniaoccpoaa
