/- disk: the document's disk goes as the disk does. -/
import Derived.Test.YtnoipbbcpiaemaaDkA
namespace Go.Proofs.Ytnoipbbcpiaemaa
open K
set_option linter.unusedVariables false

theorem ext_getD {α : Type} {d : α} {l1 l2 : List α} (h : l1.length = l2.length) (hg : ∀ i, i < l1.length → l1.getD i d = l2.getD i d) : l1 = l2 := by
  apply List.ext_getElem h
  intro i h1 h2
  have := hg i h1
  rw [List.getD_eq_getElem?_getD, List.getD_eq_getElem?_getD, List.getElem?_eq_getElem h1, List.getElem?_eq_getElem h2] at this
  exact this
theorem getD_set {α : Type} {d : α} (l : List α) (i j : Nat) (v : α) (h : i < l.length) : (l.set i v).getD j d = if j = i then v else l.getD j d := by
  rw [List.getD_eq_getElem?_getD, List.getElem?_set, List.getD_eq_getElem?_getD]
  by_cases hij : i = j
  · subst hij; simp [h]
  · rw [if_neg hij, if_neg (fun e => hij e.symm)]
theorem getD_mapr {α : Type} {d : α} (n i : Nat) (f : Nat → α) (h : i < n) : ((List.range n).map f).getD i d = f i := by
  rw [List.getD_eq_getElem?_getD, List.getElem?_map, List.getElem?_range h]; rfl
/-- The document's disk that a disk stands for. -/
def toR (D : DK) : RK := { shown := (List.range D.last.length).map fun i : Nat => shown D (i : Int), last := D.last, waits := (List.range D.last.length).map fun i : Nat => (wget D.wait (i : Int)).isSome, done := D.steps, fuse := D.fuse, down := D.down }
theorem toR_sl (D : DK) : (toR D).shown.length = D.last.length := by simp [toR]
theorem toR_tl (D : DK) : (toR D).waits.length = D.last.length := by simp [toR]
theorem toR_s {D : DK} {i : Nat} (h : i < D.last.length) : (toR D).shown.getD i zb = shown D (i : Int) := getD_mapr _ _ _ h
theorem toR_w {D : DK} {i : Nat} (h : i < D.last.length) : (toR D).waits.getD i false = (wget D.wait (i : Int)).isSome := getD_mapr _ _ _ h
theorem toR_ok {D : DK} (h : DG D) : RG (toR D) :=
  ⟨fun b hb => by
    obtain ⟨i, _, rfl⟩ := List.mem_map.1 hb
    exact shown_len h _, h.w, h.n, toR_sl D, toR_tl D, h.f⟩
theorem toR_ext {Q : RK} {D : DK} (h1 : Q.shown.length = D.last.length) (h2 : Q.waits.length = D.last.length) (hs : ∀ i, i < D.last.length → Q.shown.getD i zb = shown D (i : Int)) (hw : ∀ i, i < D.last.length → Q.waits.getD i false = (wget D.wait (i : Int)).isSome) (hl : Q.last = D.last) (hd : Q.done = D.steps) (hf : Q.fuse = D.fuse) (hn : Q.down = D.down) : Q = toR D := by
  have e1 : Q.shown = (toR D).shown := ext_getD (d := zb) (by rw [h1, toR_sl]) (fun i hi => by rw [toR_s (by omega)]; exact hs i (by omega))
  have e2 : Q.waits = (toR D).waits := ext_getD (d := false) (by rw [h2, toR_tl]) (fun i hi => by rw [toR_w (by omega)]; exact hw i (by omega))
  cases Q
  simp only at e1 e2 hl hd hf hn
  subst e1 e2 hl hd hf hn
  rfl
theorem rep_getD {α : Type} {d v : α} {n i : Nat} (h : i < n) : (List.replicate n v).getD i d = v := by
  rw [List.getD_eq_getElem?_getD, List.getElem?_replicate, if_pos h]; rfl
theorem toR_new (n : Nat) : ({ shown := List.replicate n zb, last := List.replicate n zb, waits := List.replicate n false, done := 0, fuse := -1, down := false } : RK) = toR (newD n) := by
  have hn : (newD n).last.length = n := List.length_replicate
  refine toR_ext ?_ ?_ (fun i hi => ?_) (fun i hi => ?_) rfl rfl rfl rfl
  · rw [hn]; exact List.length_replicate
  · rw [hn]; exact List.length_replicate
  · rw [hn] at hi
    show (List.replicate n zb).getD i zb = (List.replicate n zb).getD ((i : Int)).toNat zb
    rw [Int.toNat_natCast]
  · rw [hn] at hi
    show (List.replicate n false).getD i false = false
    exact rep_getD hi
theorem toR_readE (D : DK) (q : Int) : rReadE (toR D) q = fltF D q := by
  unfold rReadE fltF
  show (if D.down = true then (13 : Int) else if q < 0 ∨ q ≥ (D.last.length : Int) then 2 else 0) = _
  split
  · rfl
  · by_cases h : 0 ≤ q ∧ q < (D.last.length : Int)
    · rw [if_neg (by omega), if_pos h]
    · rw [if_pos (by omega), if_neg h]
theorem toR_readB (D : DK) (q : Int) : rReadB (toR D) q = readF D q := by
  unfold rReadB readF
  rw [toR_readE]
  split
  · rename_i h
    have h1 := fltF_in h
    rw [toR_s (by omega), Int.toNat_of_nonneg h1.1]
  · rfl
theorem toR_step {D : DK} (h : D.down = false) : stF (toR D) = ((spF D).1, toR (spF D).2) := by
  have e : spF D = if D.fuse = 0 then (false, { D with down := true }) else (true, { D with fuse := if D.fuse > 0 then D.fuse - 1 else D.fuse, steps := D.steps + 1 }) := by
    unfold spF; rw [if_neg (by rw [h]; decide)]
  rw [e]
  unfold stF
  by_cases h0 : D.fuse = 0
  · rw [if_pos (show (toR D).fuse = 0 from h0), if_pos h0]; rfl
  · rw [if_neg (show ¬ (toR D).fuse = 0 from h0), if_neg h0]; rfl
theorem wget_wset_some (W : Wt) (q i : Int) (b : List UInt8) : (wget (wset W q b) i).isSome = if i = q then true else (wget W i).isSome := by
  rw [wget_set]; split <;> rfl
theorem toR_write {D : DK} (h : DG D) (q : Int) (b : List UInt8) : rWriteF (toR D) q b = ((writeF D q b).1, toR (writeF D q b).2) := by
  unfold rWriteF writeF
  rw [toR_readE]
  by_cases h0 : fltF D q ≠ 0
  · rw [if_pos h0, if_pos h0]
  · rw [if_neg h0, if_neg h0]
    have h0 : fltF D q = 0 := Decidable.not_not.1 h0
    have hq := fltF_in h0
    have hdn : D.down = false := by
      cases hd : D.down with
      | false => rfl
      | true => unfold fltF at h0; rw [if_pos hd] at h0; cases h0
    rw [toR_step hdn]
    show (if (spF D).1 = true then _ else _) = _
    by_cases h1 : (spF D).1 = true
    · rw [if_pos h1, if_pos h1]
      refine congrArg (Prod.mk (0 : Int)) (toR_ext ?_ ?_ (fun i hi => ?_) (fun i hi => ?_) rfl rfl rfl rfl)
      · show ((toR D).shown.set _ _).length = (spF D).2.last.length
        rw [List.length_set, toR_sl, spF_last]
      · show ((toR D).waits.set _ _).length = (spF D).2.last.length
        rw [List.length_set, toR_tl, spF_last]
      · have hi' : i < D.last.length := by rw [← spF_last D]; exact hi
        show ((toR D).shown.set q.toNat b).getD i zb = (wget (wset (spF D).2.wait q b) (i : Int)).getD ((spF D).2.last.getD ((i : Int)).toNat zb)
        rw [getD_set _ _ _ _ (by rw [toR_sl]; omega), wget_set, spF_wait, spF_last]
        by_cases hx : i = q.toNat
        · rw [if_pos hx, if_pos (by omega)]; rfl
        · rw [if_neg hx, if_neg (by omega), toR_s hi']; rfl
      · have hi' : i < D.last.length := by rw [← spF_last D]; exact hi
        show ((toR D).waits.set q.toNat true).getD i false = (wget (wset (spF D).2.wait q b) (i : Int)).isSome
        rw [getD_set _ _ _ _ (by rw [toR_tl]; omega), wget_wset_some, spF_wait]
        by_cases hx : i = q.toNat
        · rw [if_pos hx, if_pos (by omega)]
        · rw [if_neg hx, if_neg (by omega), toR_w hi']
    · rw [if_neg h1, if_neg h1]
theorem wget_mem_iff (W : Wt) (k : Int) : (wget W k).isSome = true ↔ k ∈ W.map (·.1) := by
  induction W with
  | nil => simp [wget]
  | cons p W ih =>
    unfold wget
    rw [List.map_cons, List.mem_cons]
    split
    · rename_i h; simp [h]
    · rename_i h; rw [ih]; simp [h]
theorem setl_notin (p : Nat → Bool) (W : Wt) : ∀ (ks : List Int) (k : Nat) (L : List (List UInt8)) (i : Nat), (∀ q ∈ ks, 0 ≤ q) → ¬ (i : Int) ∈ ks → (setl p W k ks L).getD i zb = L.getD i zb
  | [], _, _, _, _, _ => rfl
  | q :: ks, k, L, i, h0, hn => by
    have hq := h0 q (List.mem_cons_self ..)
    have hne : i ≠ q.toNat := fun e => hn (by rw [e, Int.toNat_of_nonneg hq]; exact List.mem_cons_self ..)
    rw [setl, setl_notin p W ks (k + 1) _ i (fun x hx => h0 x (List.mem_cons_of_mem _ hx)) (fun h => hn (List.mem_cons_of_mem _ h))]
    split
    · rw [List.getD_eq_getElem?_getD, List.getElem?_set, if_neg (fun e => hne e.symm), List.getD_eq_getElem?_getD]
    · rfl
theorem setl_true (W : Wt) : ∀ (ks : List Int) (k : Nat) (L : List (List UInt8)) (i : Nat), (∀ q ∈ ks, 0 ≤ q ∧ q < (L.length : Int)) → (setl (fun _ => true) W k ks L).getD i zb = if (i : Int) ∈ ks then (wget W (i : Int)).getD zb else L.getD i zb
  | [], _, _, _, _ => by simp [setl]
  | q :: ks, k, L, i, h0 => by
    have hq := h0 q (List.mem_cons_self ..)
    rw [setl, if_pos rfl, setl_true W ks (k + 1) _ i (fun x hx => by rw [List.length_set]; exact h0 x (List.mem_cons_of_mem _ hx))]
    by_cases h1 : (i : Int) ∈ ks
    · rw [if_pos h1, if_pos (List.mem_cons_of_mem _ h1)]
    · rw [if_neg h1, getD_set _ _ _ _ (by omega)]
      by_cases h2 : i = q.toNat
      · rw [if_pos h2, if_pos (by rw [h2, Int.toNat_of_nonneg hq.1]; exact List.mem_cons_self ..), h2, Int.toNat_of_nonneg hq.1]
      · rw [if_neg h2, if_neg (fun h => by rcases List.mem_cons.1 h with h | h; omega; exact h1 h)]
theorem keys_rng {D : DK} (h : DG D) : ∀ q ∈ keysW D.wait, 0 ≤ q ∧ q < (D.last.length : Int) := fun q hq => by
  obtain ⟨p, hp, rfl⟩ := List.mem_map.1 ((keys_mem _ _).1 hq)
  exact h.k p hp
theorem shown_none {D : DK} {q : Int} (h : ¬ q ∈ keysW D.wait) : wget D.wait q = none := by
  cases hg : wget D.wait q with
  | none => rfl
  | some b => exact absurd ((keys_mem _ _).2 ((wget_mem_iff _ _).1 (by rw [hg]; rfl))) h
theorem settle_shown {D : DK} (p : Nat → Bool) (i : Nat) : shown (settleF p D) (i : Int) = (settleF p D).last.getD i zb := by
  show (wget [] (i : Int)).getD ((settleF p D).last.getD ((i : Int)).toNat zb) = _
  rw [Int.toNat_natCast]; rfl
theorem bar_shown {D : DK} (h : DG D) : (settleF (fun _ => true) D).last = (toR D).shown := by
  refine ext_getD (d := zb) ?_ (fun i hi => ?_)
  · rw [toR_sl]; exact setl_len _ _ _ _ _
  · have hi : i < D.last.length := by have := setl_len (fun _ => true) D.wait (keysW D.wait) 0 D.last; exact this ▸ hi
    rw [toR_s hi]
    show (setl (fun _ => true) D.wait 0 (keysW D.wait) D.last).getD i zb = _
    rw [setl_true _ _ _ _ _ (keys_rng h)]
    unfold shown
    split
    · rename_i hm
      have := (wget_mem_iff D.wait (i : Int)).2 ((keys_mem _ _).1 hm)
      cases hg : wget D.wait (i : Int) with
      | none => rw [hg] at this; cases this
      | some b => rfl
    · rename_i hm
      rw [shown_none hm, Int.toNat_natCast]; rfl
theorem toR_bar {D : DK} (h : DG D) : rBarF (toR D) = ((barF D).1, toR (barF D).2) := by
  unfold rBarF barF
  by_cases hd : D.down = true
  · rw [if_pos (show (toR D).down = true from hd), if_neg (by unfold spF; rw [if_pos hd]; exact Bool.false_ne_true)]
    unfold spF; rw [if_pos hd]
  · have hd' : D.down = false := by simpa using hd
    rw [if_neg (show ¬ (toR D).down = true from hd), toR_step hd']
    show (if (spF D).1 = true then _ else _) = _
    by_cases h1 : (spF D).1 = true
    · rw [if_pos h1, if_pos h1]
      have hl : (settleF (fun _ => true) (spF D).2).last.length = D.last.length := by show (setl _ _ _ _ _).length = _; rw [setl_len, spF_last]
      have hb := bar_shown h.sp
      have hsame : (toR (spF D).2).shown = (toR D).shown := by
        unfold toR shown; simp only [spF_wait, spF_last]
      rw [hsame] at hb
      refine congrArg (Prod.mk (0 : Int)) (toR_ext ?_ ?_ (fun i hi => ?_) (fun i hi => ?_) hb.symm rfl rfl rfl)
      · show (toR (spF D).2).shown.length = _
        rw [hsame, toR_sl, hl]
      · show (List.replicate _ _).length = _
        rw [List.length_replicate, toR_tl, hl]
      · rw [settle_shown]
        show (toR (spF D).2).shown.getD i zb = _
        rw [hsame, hb]
      · show (List.replicate _ false).getD i false = false
        exact rep_getD (by rw [toR_tl]; exact hl ▸ hi)
    · rw [if_neg h1, if_neg h1]
theorem crl_setl (kept : List Bool) (W : Wt) : ∀ (ks : List Int) (k : Nat) (s l : List (List UInt8)) (ws : List Bool), ks.Nodup → s.length = l.length → ws.length = l.length → (∀ q ∈ ks, 0 ≤ q ∧ q < (l.length : Int) ∧ s.getD q.toNat zb = (wget W q).getD zb) →
    (crl kept k ks s l ws).2.1 = setl (fun i => kept.getD i false) W k ks l ∧ (∀ i, (crl kept k ks s l ws).1.getD i zb = if (i : Int) ∈ ks then (setl (fun i => kept.getD i false) W k ks l).getD i zb else s.getD i zb) ∧ (∀ i, (crl kept k ks s l ws).2.2.getD i false = if (i : Int) ∈ ks then false else ws.getD i false)
  | [], _, _, _, _, _, _, _, _ => ⟨rfl, fun i => by simp [crl], fun i => by simp [crl]⟩
  | q :: ks, k, s, l, ws, hd, hs, hw, h => by
    obtain ⟨hd1, hd2⟩ := List.nodup_cons.1 hd
    obtain ⟨hq0, hq1, hq2⟩ := h q (List.mem_cons_self ..)
    have hl' : (if kept.getD k false = true then l.set q.toNat ((wget W q).getD zb) else l).length = l.length := by split <;> simp
    have ih := crl_setl kept W ks (k + 1) (s.set q.toNat ((if kept.getD k false = true then l.set q.toNat ((wget W q).getD zb) else l).getD q.toNat zb)) (if kept.getD k false = true then l.set q.toNat ((wget W q).getD zb) else l) (ws.set q.toNat false) hd2 (by rw [List.length_set, hl', hs]) (by rw [List.length_set, hl', hw]) (fun x hx => by
      obtain ⟨a, b, c⟩ := h x (List.mem_cons_of_mem _ hx)
      refine ⟨a, by rw [hl']; exact b, ?_⟩
      rw [getD_set _ _ _ _ (by omega), if_neg (fun e => hd1 (by rw [show q = x by omega]; exact hx)), c])
    obtain ⟨i1, i2, i3⟩ := ih
    rw [crl, hq2, setl]
    refine ⟨i1, fun i => ?_, fun i => ?_⟩
    · rw [i2 i]
      by_cases h1 : (i : Int) ∈ ks
      · rw [if_pos h1, if_pos (List.mem_cons_of_mem _ h1)]
      · rw [if_neg h1, getD_set _ _ _ _ (by omega)]
        by_cases h2 : i = q.toNat
        · have h3 : (i : Int) ∈ q :: ks := by rw [h2, Int.toNat_of_nonneg hq0]; exact List.mem_cons_self ..
          rw [if_pos h2, if_pos h3, setl_notin _ _ _ _ _ _ (fun x hx => (h x (List.mem_cons_of_mem _ hx)).1) h1, h2]
        · rw [if_neg h2, if_neg (fun h3 => by rcases List.mem_cons.1 h3 with h3 | h3; omega; exact h1 h3)]
    · rw [i3 i]
      by_cases h1 : (i : Int) ∈ ks
      · rw [if_pos h1, if_pos (List.mem_cons_of_mem _ h1)]
      · rw [if_neg h1, getD_set _ _ _ _ (by omega)]
        by_cases h2 : i = q.toNat
        · have h3 : (i : Int) ∈ q :: ks := by rw [h2, Int.toNat_of_nonneg hq0]; exact List.mem_cons_self ..
          rw [if_pos h2, if_pos h3]
        · rw [if_neg h2, if_neg (fun h3 => by rcases List.mem_cons.1 h3 with h3 | h3; omega; exact h1 h3)]
theorem sorted_ext : ∀ {l1 l2 : List Int}, l1.Pairwise (· < ·) → l2.Pairwise (· < ·) → (∀ x, x ∈ l1 ↔ x ∈ l2) → l1 = l2
  | [], [], _, _, _ => rfl
  | [], b :: l2, _, _, h => absurd ((h b).2 (List.mem_cons_self ..)) (by simp)
  | a :: l1, [], _, _, h => absurd ((h a).1 (List.mem_cons_self ..)) (by simp)
  | a :: l1, b :: l2, h1, h2, h => by
    obtain ⟨h1a, h1b⟩ := List.pairwise_cons.1 h1
    obtain ⟨h2a, h2b⟩ := List.pairwise_cons.1 h2
    have hab : a = b := by
      rcases List.mem_cons.1 ((h a).1 (List.mem_cons_self ..)) with e | e
      · exact e
      · rcases List.mem_cons.1 ((h b).2 (List.mem_cons_self ..)) with e2 | e2
        · exact e2.symm
        · have := h1a b e2
          have := h2a a e
          omega
    subst hab
    rw [sorted_ext h1b h2b (fun x => ⟨fun hx => by
      rcases List.mem_cons.1 ((h x).1 (List.mem_cons_of_mem _ hx)) with e | e
      · have := h1a x hx; omega
      · exact e, fun hx => by
      rcases List.mem_cons.1 ((h x).2 (List.mem_cons_of_mem _ hx)) with e | e
      · have := h2a x hx; omega
      · exact e⟩)]
theorem keys_nd {D : DK} (h : DG D) : (keysW D.wait).Nodup := by
  unfold keysW
  refine (srt_perm _).nodup_iff.2 ?_
  unfold wv2
  rw [List.map_map]; exact h.nd
theorem keys_lt {D : DK} (h : DG D) : (keysW D.wait).Pairwise (· < ·) := by
  have h1 := srt_sorted ((wv2 D.wait).map (·.1))
  have h2 := keys_nd h
  unfold keysW at h2 ⊢
  have h3 := h1.and h2
  exact h3.imp (fun hx => by obtain ⟨a, b⟩ := hx; omega)
theorem toR_list {D : DK} (h : DG D) : lisF (toR D).waits (toR D).waits.length = keysW D.wait := by
  refine sorted_ext ?_ (keys_lt h) (fun x => ?_)
  · unfold lisF
    rw [List.pairwise_map]
    exact (List.pairwise_lt_range.filter _).imp (fun hx => Int.ofNat_lt.2 hx)
  · rw [keys_mem, ← wget_mem_iff]
    unfold lisF
    rw [List.mem_map]
    constructor
    · rintro ⟨i, hi, rfl⟩
      obtain ⟨h1, h2⟩ := List.mem_filter.1 hi
      rw [toR_w (by rw [← toR_tl]; exact List.mem_range.1 h1)] at h2
      exact h2
    · intro hx
      obtain ⟨p, hp, rfl⟩ := List.mem_map.1 ((wget_mem_iff _ _).1 hx)
      have hk := h.k p hp
      refine ⟨p.1.toNat, List.mem_filter.2 ⟨List.mem_range.2 (by rw [toR_tl]; omega), ?_⟩, Int.toNat_of_nonneg hk.1⟩
      rw [toR_w (by omega), Int.toNat_of_nonneg hk.1]; exact hx
theorem toR_crash {D : DK} (h : DG D) (kept : List Bool) : rCrashF kept (toR D) = toR (crashF kept D) := by
  have hc := crl_setl kept D.wait (keysW D.wait) 0 (toR D).shown (toR D).last (toR D).waits (keys_nd h) (toR_sl D) (toR_tl D) (fun q hq => by
    obtain ⟨a, b⟩ := keys_rng h q hq
    refine ⟨a, b, ?_⟩
    rw [toR_s (by omega), Int.toNat_of_nonneg a]
    have := (wget_mem_iff D.wait q).2 ((keys_mem _ _).1 hq)
    unfold shown
    cases hg : wget D.wait q with
    | none => rw [hg] at this; cases this
    | some b => rfl)
  obtain ⟨c1, c2, c3⟩ := hc
  obtain ⟨d1, d2, d3, d4, d5⟩ := crl_ok kept (keysW D.wait) 0 (ws := (toR D).waits) (toR_ok h).ws (toR_ok h).wl
  have hl := toR_list h
  have hln := crashF_len kept D
  unfold rCrashF
  rw [hl]
  refine toR_ext ?_ ?_ (fun i hi => ?_) (fun i hi => ?_) c1 rfl rfl rfl
  · show (crl _ _ _ _ _ _).1.length = _
    rw [d3, toR_sl, hln]
  · show (crl _ _ _ _ _ _).2.2.length = _
    rw [d5, toR_tl, hln]
  · show (crl _ _ _ _ _ _).1.getD i zb = (wget [] (i : Int)).getD ((setl (fun i => kept.getD i false) D.wait 0 (keysW D.wait) D.last).getD ((i : Int)).toNat zb)
    rw [c2 i, Int.toNat_natCast]
    show _ = (setl (fun i => kept.getD i false) D.wait 0 (keysW D.wait) D.last).getD i zb
    split
    · rfl
    · rename_i hm
      rw [setl_notin _ _ _ _ _ _ (fun x hx => (keys_rng h x hx).1) hm, toR_s (by omega)]
      unfold shown
      rw [shown_none hm, Int.toNat_natCast]; rfl
  · show (crl _ _ _ _ _ _).2.2.getD i false = false
    rw [c3 i]
    split
    · rfl
    · rename_i hm
      rw [toR_w (by omega), shown_none hm]; rfl
end Go.Proofs.Ytnoipbbcpiaemaa
