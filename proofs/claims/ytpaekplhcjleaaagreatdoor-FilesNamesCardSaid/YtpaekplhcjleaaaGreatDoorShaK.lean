/- The digest by numbers, for the kernel. -/
import Derived.Test.YtpaekplhcjleaaaGreatDoorShaM
import Derived.Test.YtpaekplhcjleaaaGreatDoorJ7
import Derived.Test.YtpaekplhcjleaaaGreatDoorI22
namespace Go.Proofs.YtpaekplhcjleaaaGreatDoor
open K
set_option linter.unusedVariables false

theorem row_at (bl : List UInt8) : ∀ (n j : Nat), j < n → n ≤ 64 → rg (row bl n) j = wnext bl (row bl j) j
  | n + 1, j, h, hn => by
    rw [row]
    unfold rg
    rw [List.getD_eq_getElem?_getD, List.getElem?_set]
    by_cases hj : n = j
    · subst hj
      rw [if_pos rfl, if_pos (by rw [row_len]; omega)]; rfl
    · rw [if_neg hj, ← List.getD_eq_getElem?_getD]
      exact row_at bl n j (by omega) (by omega)
theorem row_low (bl : List UInt8) {t j : Nat} (hj : j < t) (ht : t ≤ 64) : rg (row bl t) j = rg (row bl 64) j := by
  rw [row_at bl t j hj ht, row_at bl 64 j (by omega) (Nat.le_refl _)]
namespace I
/-- The rounds over constants ks; the block's words that are still to come; the words so far, the newest first. -/
noncomputable def goK {β : Type} (c : W8 → β) : List Nat → List Nat → List Nat → W8 → β
  | [], _, _, s => c s
  | k :: ks, bs, win, s =>
    fN (match bs with | b :: _ => b | [] => wn4 (win.getD 1 0) (win.getD 6 0) (win.getD 14 0) (win.getD 15 0)) fun w =>
    fN (frst k w s) fun f1 => fN ((f1 + scnd s) % 4294967296) fun a => fN ((s.d + f1) % 4294967296) fun e =>
    goK c ks bs.tail (w :: win) ⟨a, s.a, s.b, s.c, e, s.e, s.f, s.g⟩
def wds (bl : List UInt8) : List Nat := (List.range 16).map (be bl)
theorem goK_ok {β : Type} (c : W8 → β) (hs : List Nat) (bl : List UInt8) : ∀ (m t : Nat), t + m = 64 → goK c (Kc.drop t) ((wds bl).drop t) (((row bl 64).take t).reverse) (rv hs bl t) = c (rv hs bl 64)
  | 0, t, h => by
    obtain rfl : t = 64 := by omega
    rfl
  | m + 1, t, h => by
    have ht : t < 64 := by omega
    have hk : Kc.drop t = rg Kc t :: Kc.drop (t + 1) := by
      rw [List.drop_eq_getElem_cons (show t < Kc.length from ht)]
      unfold rg
      rw [List.getD_eq_getElem?_getD, List.getElem?_eq_getElem (show t < Kc.length from ht)]; rfl
    have hw : (match (wds bl).drop t with | b :: _ => b | [] => wn4 ((((row bl 64).take t).reverse).getD 1 0) ((((row bl 64).take t).reverse).getD 6 0) ((((row bl 64).take t).reverse).getD 14 0) ((((row bl 64).take t).reverse).getD 15 0)) = rg (row bl 64) t := by
      rw [row_at bl 64 t ht (Nat.le_refl _)]
      unfold wnext
      by_cases h16 : t < 16
      · rw [if_pos h16, List.drop_eq_getElem_cons (show t < (wds bl).length by simp [wds]; omega)]
        simp [wds]
      · rw [if_neg h16, List.drop_eq_nil_of_le (show (wds bl).length ≤ t by simp [wds]; omega)]
        have hg : ∀ i, i < 16 → (((row bl 64).take t).reverse).getD i 0 = rg (row bl t) (t - 1 - i) := fun i hi => by
          rw [row_low bl (show t - 1 - i < t by omega) (by omega)]
          unfold rg
          have hl : ((row bl 64).take t).length = t := by rw [List.length_take, row_len]; omega
          rw [List.getD_eq_getElem?_getD, List.getElem?_reverse (by omega), hl, List.getElem?_take, if_pos (by omega), List.getD_eq_getElem?_getD]
        simp only
        rw [hg 1 (by omega), hg 6 (by omega), hg 14 (by omega), hg 15 (by omega), show t - 1 - 1 = t - 2 by omega, show t - 1 - 6 = t - 7 by omega, show t - 1 - 14 = t - 15 by omega, show t - 1 - 15 = t - 16 by omega]
    rw [hk]
    unfold goK
    rw [fN_eq, fN_eq, fN_eq, fN_eq, hw]
    have hr : rg (row bl 64) t :: ((row bl 64).take t).reverse = ((row bl 64).take (t + 1)).reverse := by
      rw [List.take_succ_eq_append_getElem (show t < (row bl 64).length by rw [row_len]; omega), List.reverse_append]
      unfold rg
      rw [List.getD_eq_getElem?_getD, List.getElem?_eq_getElem (show t < (row bl 64).length by rw [row_len]; omega)]; rfl
    have hd : ((wds bl).drop t).tail = (wds bl).drop (t + 1) := by rw [List.tail_drop]
    rw [hr, hd]
    have := goK_ok c hs bl m (t + 1) (by omega)
    rw [rv_succ] at this
    rw [← rnd_def]
    exact this
def addW (x y : W8) : W8 := ⟨(x.a + y.a) % 4294967296, (x.b + y.b) % 4294967296, (x.c + y.c) % 4294967296, (x.d + y.d) % 4294967296, (x.e + y.e) % 4294967296, (x.f + y.f) % 4294967296, (x.g + y.g) % 4294967296, (x.h + y.h) % 4294967296⟩
theorem sm_add (x y : W8) : sm (w8l x) (w8l y) 8 = w8l (addW x y) := rfl
noncomputable def fW {β : Type} (x : W8) (c : W8 → β) : β :=
  fN x.a fun a => fN x.b fun b => fN x.c fun c' => fN x.d fun d => fN x.e fun e => fN x.f fun f => fN x.g fun g => fN x.h fun h => c ⟨a, b, c', d, e, f, g, h⟩
theorem fW_eq {β : Type} (x : W8) (c : W8 → β) : fW x c = c x := by simp only [fW, fN_eq]
/-- m words off bytes. -/
noncomputable def wordsK {β : Type} (c : List Nat → List Nat → β) : Nat → List Nat → List Nat → β
  | 0, bs, acc => c acc bs
  | m + 1, bs, acc => match bs with
    | x :: y :: z :: v :: bs => fN (be4 x y z v) fun w => wordsK c m bs (acc ++ [w])
    | _ => c acc bs
theorem wordsK_ok {β : Type} (c : List Nat → List Nat → β) : ∀ (m : Nat) (bs acc : List Nat), 4 * m ≤ bs.length → wordsK c m bs acc = c (acc ++ (List.range m).map fun i => be4 (bs.getD (4 * i) 0) (bs.getD (4 * i + 1) 0) (bs.getD (4 * i + 2) 0) (bs.getD (4 * i + 3) 0)) (bs.drop (4 * m))
  | 0, bs, acc, _ => by simp [wordsK]
  | m + 1, bs, acc, h => by
    match bs, h with
    | x :: y :: z :: v :: bs, h =>
      simp only [List.length_cons] at h
      rw [wordsK, fN_eq, wordsK_ok c m bs _ (by omega), List.range_succ_eq_map, List.map_cons, List.map_map, List.append_assoc]
      have e5 : (x :: y :: z :: v :: bs).drop (4 * (m + 1)) = bs.drop (4 * m) := by rw [show 4 * (m + 1) = 4 * m + 4 by omega]; rfl
      rw [e5]
      congr 2
/-- The blocks of bytes. -/
noncomputable def blkK {β : Type} (c : W8 → β) : Nat → List Nat → W8 → β
  | 0, _, s => c s
  | k + 1, bs, s => wordsK (fun ws rest => goK (fun v => fW (addW s v) fun s' => blkK c k rest s') Kc ws [] s) 16 bs []
theorem un8_get {L : List Nat} (hL : ∀ b ∈ L, b < 256) {i : Nat} (h : i < 64) (hl : 64 ≤ L.length) : L.getD i 0 = bt4 (un8 (L.take 64)) i := by
  have h1 : i < L.length := by omega
  unfold bt4 un8
  rw [List.getD_eq_getElem?_getD, List.getD_eq_getElem?_getD, List.getElem?_map, List.getElem?_take, if_pos h, List.getElem?_eq_getElem h1]
  have := hL _ (List.getElem_mem h1)
  simp only [Option.map_some, Option.getD_some]
  simp
  omega
theorem blkK_ok {β : Type} (c : W8 → β) : ∀ (k : Nat) (L : List Nat) (s : W8), (∀ b ∈ L, b < 256) → L.length = 64 * k → ∃ v, blkK c k L s = c v ∧ w8l v = mixes k (un8 L) (w8l s)
  | 0, L, s, _, _ => ⟨s, rfl, rfl⟩
  | k + 1, L, s, hL, hl => by
    have hw : (List.range 16).map (fun i => be4 (L.getD (4 * i) 0) (L.getD (4 * i + 1) 0) (L.getD (4 * i + 2) 0) (L.getD (4 * i + 3) 0)) = wds (un8 (L.take 64)) := by
      unfold wds
      apply List.map_congr_left
      intro i hi
      have := List.mem_range.1 hi
      unfold be
      rw [un8_get hL (by omega) (by omega), un8_get hL (by omega) (by omega), un8_get hL (by omega) (by omega), un8_get hL (by omega) (by omega)]
    have hg := goK_ok (fun v => fW (addW s v) fun s' => blkK c k (L.drop 64) s') (w8l s) (un8 (L.take 64)) 64 0 rfl
    obtain ⟨v, h1, h2⟩ := blkK_ok c k (L.drop 64) (addW s (rv (w8l s) (un8 (L.take 64)) 64)) (fun b hb => hL b (List.mem_of_mem_drop hb)) (by rw [List.length_drop]; omega)
    refine ⟨v, ?_, ?_⟩
    · unfold blkK
      rw [wordsK_ok _ 16 L [] (by omega), hw, List.nil_append]
      have e0 : rv (w8l s) (un8 (L.take 64)) 0 = s := rfl
      rw [List.drop_zero, List.drop_zero, List.take_zero, e0] at hg
      refine Eq.trans hg ?_
      rw [fW_eq]; exact h1
    · rw [h2, mixes]
      have e1 : (un8 L).drop 64 = un8 (L.drop 64) := by unfold un8; rw [List.map_drop]
      have e2 : (un8 L).take 64 = un8 (L.take 64) := by unfold un8; rw [List.map_take]
      rw [e1, e2]
      unfold mixF
      rw [sm_add]
/-- n bytes of a number, the greatest first, ahead of acc. -/
noncomputable def bytesK {β : Type} (c : List Nat → β) : Nat → Nat → List Nat → β
  | 0, _, acc => c acc
  | n + 1, x, acc => fN (x % 256) fun b => fN (x / 256) fun y => bytesK c n y (b :: acc)
theorem val_snoc (l : List UInt8) (b : UInt8) : val (l ++ [b]) = val l * 256 + b.toNat := by
  have h : ∀ (l : List UInt8) (a : Nat), strOf (l ++ [b]) a = strOf l a * 256 + b.toNat := by
    intro l
    induction l with
    | nil => intro a; rfl
    | cons x l ih => intro a; exact ih _
  exact h l 0
theorem bytesK_ok {β : Type} (c : List Nat → β) : ∀ (n : Nat) (l : List UInt8) (acc : List Nat), l.length = n → bytesK c n (val l) acc = c (l.map UInt8.toNat ++ acc)
  | 0, l, acc, h => by rw [List.eq_nil_of_length_eq_zero h]; rfl
  | n + 1, l, acc, h => by
    obtain ⟨l', b, rfl⟩ : ∃ l' b, l = l' ++ [b] := by
      rcases List.eq_nil_or_concat l with h0 | ⟨l', b, h0⟩
      · rw [h0] at h; cases h
      · exact ⟨l', b, by rw [h0]; simp⟩
    have hb : b.toNat < 256 := UInt8.toNat_lt b
    rw [bytesK, fN_eq, fN_eq, val_snoc, show (val l' * 256 + b.toNat) % 256 = b.toNat by omega, show (val l' * 256 + b.toNat) / 256 = val l' by omega, bytesK_ok c n l' _ (by rw [List.length_append] at h; simpa using h)]
    simp
noncomputable def catK {β : Type} : List (Nat × Nat) → List Nat → (List Nat → β) → β
  | [], acc, c => c acc
  | p :: r, acc, c => catK r acc fun acc' => bytesK c p.1 p.2 acc'
theorem catK_ok {β : Type} : ∀ (ss : List ByteArray) (acc : List Nat) (c : List Nat → β), catK (ss.map fun s => (s.size, val s.data.toList)) acc c = c ((cat ss).map UInt8.toNat ++ acc)
  | [], acc, c => rfl
  | s :: ss, acc, c => by
    rw [List.map_cons, catK, catK_ok ss acc]
    rw [bytesK_ok c s.size s.data.toList _ (by simp)]
    rw [← List.append_assoc, ← List.map_append]
    rfl
def totK (l : List (Nat × Nat)) : Nat := l.foldr (fun p n => p.1 + n) 0
theorem totK_ok : ∀ (ss : List ByteArray), totK (ss.map fun s => (s.size, val s.data.toList)) = (cat ss).length
  | [] => rfl
  | s :: ss => by
    have ih := totK_ok ss
    unfold totK at *
    rw [List.map_cons, List.foldr_cons, ih]
    have : cat (s :: ss) = s.data.toList ++ cat ss := rfl
    rw [this, List.length_append]
    simp
def W0 : W8 := ⟨1779033703, 3144134277, 1013904242, 2773480762, 1359893119, 2600822924, 528734635, 1541459225⟩
/-- A word's bytes as a tree. -/
noncomputable def fB4 {β : Type} (x : Nat) (c : AV → β) : β :=
  fN (x / 16777216 % 256) fun p => fN (x / 65536 % 256) fun q => fN (x / 256 % 256) fun r => fN (x % 256) fun s => c (.node (.node (.int .u8 (.ofNat p)) (.int .u8 (.ofNat q))) (.node (.int .u8 (.ofNat r)) (.int .u8 (.ofNat s))))
def t4 (x : Nat) : AV := .node (.node (.int .u8 (.ofNat (x / 16777216 % 256))) (.int .u8 (.ofNat (x / 65536 % 256)))) (.node (.int .u8 (.ofNat (x / 256 % 256))) (.int .u8 (.ofNat (x % 256))))
theorem fB4_eq {β : Type} (x : Nat) (c : AV → β) : fB4 x c = c (t4 x) := by simp only [fB4, fN_eq, t4]
def t32 (v : W8) : AV := .node (.node (.node (t4 v.a) (t4 v.b)) (.node (t4 v.c) (t4 v.d))) (.node (.node (t4 v.e) (t4 v.f)) (.node (t4 v.g) (t4 v.h)))
noncomputable def outK {β : Type} (c : AV → β) (v : W8) : β :=
  fB4 v.a fun a => fB4 v.b fun b => fB4 v.c fun c' => fB4 v.d fun d => fB4 v.e fun e => fB4 v.f fun f => fB4 v.g fun g => fB4 v.h fun h =>
  c (.node (.node (.node a b) (.node c' d)) (.node (.node e f) (.node g h)))
theorem outK_eq {β : Type} (c : AV → β) (v : W8) : outK c v = c (t32 v) := by simp only [outK, fB4_eq, t32]
/-- The digest of texts. -/
noncomputable def shaK {β : Type} (l : List (Nat × Nat)) (c : AV → β) : β := fN (totK l) fun N => catK l (tailN N) fun L => blkK (outK c) (L.length / 64) L W0
theorem shaK_ok {β : Type} (ss : List ByteArray) (c : AV → β) : ∃ v, shaK (ss.map fun s => (s.size, val s.data.toList)) c = c (t32 v) ∧ shaD (cat ss) = dgr (w8l v) 8 := by
  have hl : ((cat ss).map UInt8.toNat ++ tailN (cat ss).length).length = 64 * (((cat ss).map UInt8.toNat ++ tailN (cat ss).length).length / 64) := by
    have := tailN_len (cat ss).length
    rw [List.length_append, List.length_map]; omega
  have hb : ∀ b ∈ (cat ss).map UInt8.toNat ++ tailN (cat ss).length, b < 256 := by
    intro b hb
    rcases List.mem_append.1 hb with hb | hb
    · obtain ⟨x, _, rfl⟩ := List.mem_map.1 hb
      exact UInt8.toNat_lt x
    · unfold tailN at hb
      rcases List.mem_cons.1 hb with rfl | hb
      · decide
      · rcases List.mem_append.1 hb with hb | hb
        · rw [(List.mem_replicate.1 hb).2]; decide
        · obtain ⟨i, _, rfl⟩ := List.mem_map.1 hb
          exact Nat.mod_lt _ (by decide)
  obtain ⟨v, h1, h2⟩ := blkK_ok (outK c) _ _ W0 hb hl
  refine ⟨v, ?_, ?_⟩
  · unfold shaK
    rw [fN_eq, totK_ok, catK_ok, h1, outK_eq]
  · have hu : un8 ((cat ss).map UInt8.toNat ++ tailN (cat ss).length) = cat ss ++ un8 (tailN (cat ss).length) := by
      unfold un8
      rw [List.map_append, List.map_map]
      congr 1
      conv => rhs; rw [← List.map_id (cat ss)]
      apply List.map_congr_left
      intro b _
      simp
    rw [hu] at h2
    have hk : (cat ss).length + (tailN (cat ss).length).length = 64 * (((cat ss).map UInt8.toNat ++ tailN (cat ss).length).length / 64) := by
      rw [List.length_append, List.length_map] at hl ⊢; exact hl
    rw [shaD_mixes (cat ss) hk, h2]
    rfl
/-- The table of the rounds. -/
noncomputable def tabL (t : AV) : List Nat → Nat → Bool
  | [], _ => true
  | k :: ks, i => (match cget 6 t i with | .int .u32 (.ofNat m) => Nat.beq m k | _ => false) && tabL t ks (i + 1)
theorem tabL_ok (t : AV) : ∀ (ks : List Nat) (i : Nat), tabL t ks i = true → ∀ j, j < ks.length → cget 6 t (i + j) = .int .u32 (.ofNat (rg ks j))
  | k :: ks, i, h, j, hj => by
    rw [tabL, Bool.and_eq_true] at h
    cases j with
    | zero =>
      have h1 := h.1
      split at h1
      · rename_i m hm
        rw [Nat.add_zero, hm, beqn_iff.1 h1]; rfl
      · cases h1
    | succ j =>
      have := tabL_ok t ks (i + 1) h.2 j (by simpa using hj)
      rw [show i + (j + 1) = i + 1 + j by omega, this]; rfl
noncomputable def strsK (d : Nat) (t : AV) : Nat → Nat → Option (List (Nat × Nat))
  | 0, _ => some []
  | k + 1, off => match cget d t off with
    | .str m x => match strsK d t k (off + 1) with
      | some l => some ((m, x) :: l)
      | none => none
    | _ => none
theorem strsK_ok {σ : Sg} {d : Nat} {t : AV} {cs : Array Value} : ∀ (k off : Nat) (l : List (Nat × Nat)), (∀ i, i < k → ∃ v, cs[off + i]? = some v ∧ Rel σ (cget d t (off + i)) v) → strsK d t k off = some l →
    ∃ ss : List ByteArray, ss.length = k ∧ l = ss.map (fun s => (s.size, val s.data.toList)) ∧ ∀ i, i < k → cs[off + i]? = some (.string (sat ss i))
  | 0, off, l, _, h => by
    simp only [strsK, Option.some.injEq] at h
    exact ⟨[], rfl, by rw [← h]; rfl, fun i hi => absurd hi (Nat.not_lt_zero i)⟩
  | k + 1, off, l, hc, h => by
    unfold strsK at h
    split at h
    · rename_i m x hm
      split at h
      · rename_i l' hl
        simp only [Option.some.injEq] at h
        obtain ⟨v, h1, h2⟩ := hc 0 (Nat.succ_pos k)
        rw [Nat.add_zero] at h1 h2
        rw [hm] at h2
        cases h2 with
        | str s _ _ hn hx =>
        obtain ⟨ss, e1, e2, e3⟩ := strsK_ok k (off + 1) l' (fun i hi => by
          have := hc (i + 1) (by omega)
          rw [show off + (i + 1) = off + 1 + i by omega] at this; exact this) hl
        refine ⟨s :: ss, by rw [List.length_cons, e1], by rw [← h, e2, hn, hx]; rfl, fun i hi => ?_⟩
        cases i with
        | zero => exact h1
        | succ i => rw [show off + (i + 1) = off + 1 + i by omega]; exact e3 i (by omega)
      · cases h
    · cases h
noncomputable def sumX (fn : Nat) : KF := fun f args h nx =>
  bif Nat.beq f fn then match cget HD h 1 with
    | .cells _ n0 _ t0 => bif Nat.beq n0 64 && tabL t0 Kc 0 then match args with
      | [.nils] => shaK [] fun d => some (.agg 32 d, h, nx)
      | [.sl b off len lb 1] => match cget HD h b with
        | .cells _ n _ t => bif Nat.ble (off + len) n && Nat.ble len 1000000 then match strsK (lg n) t len off with
          | some l => shaK l fun d => some (.agg 32 d, h, nx)
          | none => none
          else none
        | _ => none
      | _ => none
      else none
    | _ => none
  else none
structure ShaSum (P : Program) (fn : Nat) : Prop where
  has : ∃ f c, P.funcs[fn]? = some f ∧ (f.name == "runtime.NumGoroutine") = false ∧ f.body = some c
  sum : ∀ (la : Option Addr) (cap : Nat) (ss : List ByteArray) (Rl : List (Nat × Obj)) (kt : Array Value) (t0 : TypeId) (fr0 : Nat × Nat) (w : World), InS Rl la ss.length (fun j => .string (sat ss j)) → ss.length ≤ maxLen →
    Has w ((1, .cells kt t0 fr0) :: Rl) → KT kt → Calls P fn #[.slice la ss.length cap] w fun e w' => e = .returned (.agg (bv (shaD (cat ss)))) ∧ Ext [] w w'
theorem t32_get (v : W8) : ∀ i, i < 32 → cget 5 (t32 v) i = .int .u8 (Int.ofNat ((dgr (w8l v) 8).getD i 0).toNat)
  | 0, _ => rfl
  | 1, _ => rfl
  | 2, _ => rfl
  | 3, _ => rfl
  | 4, _ => rfl
  | 5, _ => rfl
  | 6, _ => rfl
  | 7, _ => rfl
  | 8, _ => rfl
  | 9, _ => rfl
  | 10, _ => rfl
  | 11, _ => rfl
  | 12, _ => rfl
  | 13, _ => rfl
  | 14, _ => rfl
  | 15, _ => rfl
  | 16, _ => rfl
  | 17, _ => rfl
  | 18, _ => rfl
  | 19, _ => rfl
  | 20, _ => rfl
  | 21, _ => rfl
  | 22, _ => rfl
  | 23, _ => rfl
  | 24, _ => rfl
  | 25, _ => rfl
  | 26, _ => rfl
  | 27, _ => rfl
  | 28, _ => rfl
  | 29, _ => rfl
  | 30, _ => rfl
  | 31, _ => rfl
  | n + 32, h => absurd h (by omega)
theorem t32_rel {σ : Sg} {v : W8} {l : List UInt8} (h : l = dgr (w8l v) 8) : Rel σ (.agg 32 (t32 v)) (.agg (bv l)) := by
  have hl : l.length = 32 := by rw [h]; exact dgr_len (Nat.le_refl 8)
  refine .agg 32 _ _ ((bv_size _).trans hl) (fun i u hu => all_bv _ _ (List.mem_of_getElem? (by rw [Array.getElem?_toList]; exact hu))) (fun i u hu => ?_)
  have hi : i < 32 := by
    have := (Array.getElem?_eq_some_iff.1 hu).1
    rw [bv_size, hl] at this; exact this
  rw [bv_get hl hi] at hu
  simp only [Option.some.injEq] at hu
  show Rel σ (cget 5 (t32 v) i) u
  rw [t32_get v i hi, ← hu, h]
  exact .int _ _
theorem sumX_ok {P : Program} {G fn : Nat} (S : ShaSum P fn) (hG : 1 < G) : XOk P G (sumX fn) := by
  intro f args h nx v h' nx' hh
  unfold sumX at hh
  cases hf : Nat.beq f fn with
  | false => simp [hf] at hh
  | true =>
    have := beqn_iff.1 hf
    subst this
    simp only [hf, cond_true] at hh
    intro σ w0 B w vs H hg hr
    unfold CalleeOk
    rw [if_pos (by omega), show 2 * f / 2 = f by omega]
    refine ⟨S.has, ?_⟩
    split at hh
    · rename_i ty0 n0 ro0 t0 hc0
      cases hz : (Nat.beq n0 64 && tabL t0 Kc 0) with
      | false => simp [hz] at hh
      | true =>
        simp only [hz, cond_true] at hh
        rw [Bool.and_eq_true] at hz
        have hn0 := beqn_iff.1 hz.1
        subst hn0
        obtain ⟨size0, hs0⟩ := hg 1 hG
        obtain ⟨cs0, fr0, tt0, g1, g2, ⟨_, g3, _⟩, g4, _⟩ := H.cells hs0 hc0
        have hK : KT cs0 := fun t ht => by
          obtain ⟨u, u1, u2, u3⟩ := g4 t ht
          have hq := tabL_ok t0 Kc 0 hz.2 t ht
          rw [Nat.zero_add] at hq u1
          rw [show lg 64 = 6 from rfl, hq] at u3
          cases u3
          exact u1
        have fin : ∀ (la : Option Addr) (cap : Nat) (ss : List ByteArray) (Rl : List (Nat × Obj)), InS Rl la ss.length (fun j => .string (sat ss j)) → ss.length ≤ maxLen → Has w Rl → vs = [.slice la ss.length cap] →
            shaK (ss.map fun s => (s.size, val s.data.toList)) (fun d => some (AV.agg 32 d, h, nx)) = some (v, h', nx') →
            Calls P f vs.toArray w fun e w' => ∃ σ' v', SubX nx σ σ' ∧ Dk nx h h' ∧ nx ≤ nx' ∧ e = .returned v' ∧ Rel σ' v v' ∧ HS σ' h' nx' w0 B w' := by
          intro la cap ss Rl hI hn hR hv hk
          obtain ⟨x, k1, k2⟩ := shaK_ok ss (fun d => some (AV.agg 32 d, h, nx))
          rw [k1] at hk
          simp only [Option.some.injEq, Prod.mk.injEq] at hk
          obtain ⟨rfl, rfl, rfl⟩ := hk
          rw [hv]
          refine (S.sum la cap ss Rl cs0 tt0 fr0 w hI hn (fun e he => by
            rcases List.mem_cons.1 he with rfl | he
            · exact g1
            · exact hR e he) hK).mono ?_
          rintro e w' ⟨rfl, hE⟩
          exact ⟨σ, _, SubX.refl _ _, Dk.refl _ _, Nat.le_refl _, rfl, t32_rel k2, H.more (fun k hk => hE.block k hk (by simp)) hE.size hE.os hE.tape hE.output⟩
        obtain ⟨hrl, hri⟩ := hr
        split at hh
        · match vs, hrl with
          | [u], _ =>
            have := hri 0 _ u rfl rfl
            cases this
            exact fin none 0 [] [] (fun h => absurd h (by simp)) (by simp [maxLen]) (fun _ h => by cases h) rfl hh
        · rename_i b off len lb
          match vs, hrl with
          | [u], _ =>
            have hu := hri 0 _ u rfl rfl
            cases hu with
            | sl _ _ _ _ _ r base size o cap q1 q2 q3 q4 q5 =>
            split at hh
            · rename_i ty n ro t hc
              cases hq : (Nat.ble (off + len) n && Nat.ble len 1000000) with
              | false => simp [hq] at hh
              | true =>
                simp only [hq, cond_true] at hh
                rw [Bool.and_eq_true] at hq
                have hle := ble_iff.1 hq.1
                have hle2 := ble_iff.1 hq.2
                obtain ⟨cs, fr, tt, p1, p2, ⟨rfl, p3, _⟩, p4, _⟩ := H.cells q1 hc
                split at hh
                · rename_i l hl
                  obtain ⟨ss, e1, e2, e3⟩ := strsK_ok (σ := σ) (cs := cs) len off l (fun i hi => by
                    obtain ⟨u, u1, _, u3⟩ := p4 (off + i) (by omega)
                    exact ⟨u, by rw [Nat.zero_add] at u1; exact u1, u3⟩) hl
                  subst e2
                  refine fin (some ⟨r, o, none⟩) cap ss [(r, .cells cs tt fr)] (fun h0 => ⟨r, o, cs, tt, fr, rfl, List.mem_singleton.2 rfl, fun j hj => ?_⟩) (by rw [e1]; unfold maxLen; omega) (fun e he => by rw [List.mem_singleton.1 he]; exact p1) (by rw [e1]) hh
                  have ho := q4 (by omega)
                  rw [ho, Nat.zero_add]
                  exact e3 j (by omega)
                · cases hh
            · cases hh
        · cases hh
    · cases hh
/-- One intrinsic, else another one. -/
noncomputable def orX (X Y : KF) : KF := fun f args h nx => match X f args h nx with
  | some r => some r
  | none => Y f args h nx
theorem orX_ok {P : Program} {G : Nat} {X Y : KF} (hX : XOk P G X) (hY : XOk P G Y) : XOk P G (orX X Y) := by
  intro f args h nx v h' nx' hh
  unfold orX at hh
  split at hh
  · rename_i r hr
    simp only [Option.some.injEq] at hh
    exact hX f args h nx v h' nx' (hh ▸ hr)
  · exact hY f args h nx v h' nx' hh
end I
theorem shaSumI : I.ShaSum Tryz.prog 104 := ⟨⟨_, _, Tryz.func104, rfl, rfl⟩, fun la cap ss Rl kt t0 fr0 w hI hn hR hK => shaSum la cap ss Rl w hI hn hR hK⟩

end Go.Proofs.YtpaekplhcjleaaaGreatDoor
