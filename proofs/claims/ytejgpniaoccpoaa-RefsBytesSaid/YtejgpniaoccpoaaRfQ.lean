/- refs: a state as bytes, and back, in plain words. -/
import Derived.Test.YtejgpniaoccpoaaWireQ
import Derived.Test.YtejgpniaoccpoaaRf7
namespace Go.Proofs.Ytejgpniaoccpoaa
open K
set_option linter.unusedVariables false

/-- What is wrong with the i-th name of a row, beside others. -/
def chkAt (l o : List Rf) (i : Nat) : Int :=
  if refB (l.getD i rz).1 = false then 12
  else if (decide ((i : Int) > 0) && ((Op.bytesLess (l.getD i rz).1.toList (l.getD ((i : Int) - 1).toNat rz).1.toList) || ((l.getD i rz).1.toList == (l.getD ((i : Int) - 1).toNat rz).1.toList))) = true then 19
  else if ((l.getD i rz).2 == (List.replicate 32 0)) = true then 2 else if 0 ≤ fidx (pEq (l.getD i rz).1) o then 17 else 0
def chkR (l o : List Rf) : Nat → Nat → Int
  | 0, _ => 0
  | k + 1, i => if chkAt l o i ≠ 0 then chkAt l o i else chkR l o k (i + 1)
def chkF (l o : List Rf) : Int := if 16 < l.length then 6 else chkR l o l.length 0
theorem chkR_next {l o : List Rf} {i : Nat} (hi : i < l.length) (h : chkAt l o i = 0) : chkR l o (l.length - i) i = chkR l o (l.length - (i + 1)) (i + 1) := by
  rw [show l.length - i = (l.length - (i + 1)) + 1 by omega, chkR, if_neg (by rw [h]; decide)]
theorem chkR_stop {l o : List Rf} {i : Nat} (hi : i < l.length) (h : chkAt l o i ≠ 0) : chkR l o (l.length - i) i = chkAt l o i := by
  rw [show l.length - i = (l.length - (i + 1)) + 1 by omega, chkR, if_pos h]
theorem chkR_all {l o : List Rf} : ∀ (k i : Nat), i + k = l.length → chkR l o k i = 0 → ∀ j, i ≤ j → j < l.length → chkAt l o j = 0
  | 0, i, h, _, j, h1, h2 => by omega
  | k + 1, i, h, hc, j, h1, h2 => by
    rw [chkR] at hc
    split at hc
    · rename_i h0; exact absurd hc h0
    · rename_i h0
      by_cases hj : j = i
      · rw [hj]; exact Decidable.not_not.1 h0
      · exact chkR_all k (i + 1) (by omega) hc j (by omega) h2
theorem chkF_stop {l o : List Rf} {i : Nat} {v : Int} (h16 : ¬ 16 < l.length) (hinv : chkR l o (l.length - i) i = chkR l o l.length 0) (hi : i < l.length) (hv : chkAt l o i = v) (h0 : v ≠ 0) : chkF l o = v := by
  unfold chkF
  rw [if_neg h16, ← hinv, chkR_stop hi (by rw [hv]; exact h0), hv]
theorem chkF_done {l o : List Rf} {i : Nat} (h16 : ¬ 16 < l.length) (hinv : chkR l o (l.length - i) i = chkR l o l.length 0) (hi : i = l.length) : chkF l o = 0 := by
  unfold chkF
  rw [if_neg h16, ← hinv, hi, Nat.sub_self]; rfl
theorem chkAt_ref {l o : List Rf} {i : Nat} (h : chkAt l o i = 0) : refB (l.getD i rz).1 = true := by
  unfold chkAt at h
  split at h
  · exact absurd h (by decide)
  · rename_i h0; simpa using h0
theorem chkF_ok {l o : List Rf} (h : chkF l o = 0) : l.length ≤ 16 ∧ ∀ x ∈ l, refB x.1 = true := by
  unfold chkF at h
  split at h
  · exact absurd h (by decide)
  · rename_i h0
    refine ⟨by omega, fun x hx => ?_⟩
    obtain ⟨i, hi, rfl⟩ := List.getElem_of_mem hx
    have h1 := chkAt_ref (chkR_all l.length 0 (by omega) h i (Nat.zero_le _) hi)
    rw [List.getD_eq_getElem?_getD, List.getElem?_eq_getElem hi] at h1
    exact h1
def checkF (s : RSt) : Int := if refB s.hd = false then 12 else if chkF s.l [] ≠ 0 then chkF s.l [] else chkF s.m s.l
theorem checkF_ok {s : RSt} (h : checkF s = 0) : refB s.hd = true ∧ chkF s.l [] = 0 ∧ chkF s.m s.l = 0 := by
  unfold checkF at h
  split at h
  · exact absurd h (by decide)
  · rename_i h0
    split at h
    · rename_i h1; exact absurd h h1
    · rename_i h1; exact ⟨by simpa using h0, Decidable.not_not.1 h1, h⟩
theorem refB_len {s : ByteArray} (h : refB s = true) : s.size ≤ 24 := by
  unfold refB at h
  rw [Bool.and_eq_true] at h
  have := of_decide_eq_true h.1
  exact this.2
def refL (x : Rf) : List UInt8 := text4 x.1 ++ x.2
def rowR (l : List Rf) : List UInt8 := four l.length ++ flat refL l
def bytesF (s : RSt) : List UInt8 := text4 s.hd ++ (rowR s.l ++ (rowR s.m ++ eight s.nx.toNat))
def takeR (z : IN) : Rf × IN := ((tx (textF z 24).1, (digF (textF z 24).2).1), (digF (textF z 24).2).2)
def p1 (t : List UInt8) : List UInt8 × IN := textF ⟨0, t⟩ 24
def p2 (t : List UInt8) : List Rf × IN := rowsT takeR (p1 t).2 16
def p3 (t : List UInt8) : List Rf × IN := rowsT takeR (p2 t).2 16
def p4 (t : List UInt8) : Nat × IN := eightF (p3 t).2
def pS (t : List UInt8) : RSt := ⟨tx (p1 t).1, (p2 t).1, (p3 t).1, (p4 t).1⟩
def parseE (t : List UInt8) : Int := if endF (p4 t).2 ≠ 0 then endF (p4 t).2 else checkF (pS t)
def parseS (t : List UInt8) : RSt := if parseE t = 0 then pS t else RSt.z
theorem takeR_bad (z : IN) (h : z.er ≠ 0) : (takeR z).2 = z := by
  unfold takeR
  simp only
  rw [text_bad h]; exact dig_bad h
theorem takeR_ok (z : IN) (h : (takeR z).2.er = 0) : z.er = 0 ∧ z.rest = refL (takeR z).1 ++ (takeR z).2.rest := by
  obtain ⟨h1, h2⟩ := dig_ok (z := (textF z 24).2) h
  obtain ⟨g1, g2⟩ := text_ok h1
  refine ⟨g1, ?_⟩
  rw [g2, h2]
  unfold refL takeR
  simp only
  rw [List.append_assoc]
theorem takeR_app (x : Rf) (r : List UInt8) (h1 : x.1.size ≤ 24) (h2 : x.2.length = 32) : takeR ⟨0, refL x ++ r⟩ = (x, ⟨0, r⟩) := by
  unfold takeR refL
  rw [List.append_assoc, textF_app x.1 (x.2 ++ r) (by omega) (by omega)]
  simp only
  rw [digF_app x.2 r h2, tx_back]
theorem rowsT_ok {z : IN} (h : (rowsT takeR z 16).2.er = 0) : z.er = 0 ∧ z.rest = rowR (rowsT takeR z 16).1 ++ (rowsT takeR z 16).2.rest ∧ (rowsT takeR z 16).1.length ≤ 16 := by
  unfold rowsT at h ⊢
  obtain ⟨h1, l, h2, h3, h4⟩ := rows_ok (f := refL) takeR_bad takeR_ok (boundF z 16 6).1 (boundF z 16 6).2 [] h
  obtain ⟨g1, g2, g3⟩ := bound_ok (by decide) h1
  have g3 : (boundF z 16 6).1 ≤ 16 := g3
  rw [List.nil_append] at h2
  refine ⟨g1, ?_, by rw [h2, h3]; exact g3⟩
  rw [g2, h4, h2]
  unfold rowR
  rw [h3, List.append_assoc]
theorem rowsT_back (xs : List Rf) (r : List UInt8) (hl : xs.length ≤ 16) (h : ∀ x ∈ xs, x.1.size ≤ 24) (hW : W32 xs) : rowsT takeR ⟨0, rowR xs ++ r⟩ 16 = (xs, ⟨0, r⟩) := by
  unfold rowsT rowR
  rw [List.append_assoc, boundF_app xs.length _ (by omega) (by omega)]
  have h1 := rows_app (tk := takeR) (f := refL) xs r [] (fun x hx r => takeR_app x r (h x hx) (hW x hx))
  simpa using h1
theorem parse_bytes {s : RSt} (hc : checkF s = 0) (hW : W32 s.l) (hV : W32 s.m) (hn : 0 ≤ s.nx ∧ s.nx < 18446744073709551616) : parseE (bytesF s) = 0 ∧ pS (bytesF s) = s := by
  obtain ⟨c1, c2, c3⟩ := checkF_ok hc
  obtain ⟨d1, d2⟩ := chkF_ok c2
  obtain ⟨e1, e2⟩ := chkF_ok c3
  have hh := refB_len c1
  have q1 : p1 (bytesF s) = (s.hd.data.toList, ⟨0, rowR s.l ++ (rowR s.m ++ eight s.nx.toNat)⟩) := textF_app s.hd _ (by omega) (by omega)
  have q2 : p2 (bytesF s) = (s.l, ⟨0, rowR s.m ++ eight s.nx.toNat⟩) := by unfold p2; rw [q1]; exact rowsT_back s.l _ d1 (fun x hx => refB_len (d2 x hx)) hW
  have q3 : p3 (bytesF s) = (s.m, ⟨0, eight s.nx.toNat⟩) := by unfold p3; rw [q2]; exact rowsT_back s.m _ e1 (fun x hx => refB_len (e2 x hx)) hV
  have q4 : p4 (bytesF s) = (s.nx.toNat, ⟨0, []⟩) := by
    unfold p4; rw [q3]
    have := eightF_app s.nx.toNat [] (by omega)
    rw [List.append_nil] at this; exact this
  have q5 : pS (bytesF s) = s := by
    unfold pS; rw [q1, q2, q3, q4]
    simp only
    rw [tx_back, Int.toNat_of_nonneg hn.1]
  refine ⟨?_, q5⟩
  unfold parseE
  rw [q4, q5]
  exact (if_neg (fun h => h rfl)).trans hc
theorem back_aux (t : List UInt8) (a : List UInt8 × IN) (b c : List Rf × IN) (d : Nat × IN) (ha : a = textF ⟨0, t⟩ 24) (hb : b = rowsT takeR a.2 16) (hc : c = rowsT takeR b.2 16) (hd : d = eightF c.2) (he : d.2.er = 0) (hr : d.2.rest = []) : text4 (tx a.1) ++ (rowR b.1 ++ (rowR c.1 ++ eight d.1)) = t := by
  obtain ⟨a1, a2⟩ := eight_ok (z := c.2) (by rw [← hd]; exact he)
  rw [← hd, hr, List.append_nil] at a2
  obtain ⟨b1, b2, _⟩ := rowsT_ok (z := b.2) (by rw [← hc]; exact a1)
  rw [← hc, a2] at b2
  obtain ⟨c1, c2, _⟩ := rowsT_ok (z := a.2) (by rw [← hb]; exact b1)
  rw [← hb, b2] at c2
  obtain ⟨d1, d2⟩ := text_ok (z := ⟨0, t⟩) (most := 24) (by rw [← ha]; exact c1)
  rw [← ha, c2] at d2
  exact d2.symm
theorem bytes_parse {t : List UInt8} (h : parseE t = 0) : checkF (pS t) = 0 ∧ bytesF (pS t) = t := by
  unfold parseE at h
  split at h
  · rename_i h0; exact absurd h h0
  · rename_i h0
    have h0 : endF (p4 t).2 = 0 := Decidable.not_not.1 h0
    refine ⟨h, ?_⟩
    have he : (p4 t).2.er = 0 ∧ (p4 t).2.rest = [] := by
      unfold endF at h0
      split at h0
      · rename_i h1; exact absurd h0 h1
      · rename_i h1
        split at h0
        · exact absurd h0 (by decide)
        · rename_i h2; exact ⟨Decidable.not_not.1 h1, List.eq_nil_of_length_eq_zero (by omega)⟩
    have := back_aux t (p1 t) (p2 t) (p3 t) (p4 t) rfl rfl rfl rfl he.1 he.2
    unfold bytesF pS
    rw [Int.toNat_natCast]; exact this
theorem rowsF_w : ∀ (k : Nat) (z : IN) (acc : List Rf), W32 acc → W32 (rowsF takeR k z acc).1
  | 0, z, acc, h => h
  | k + 1, z, acc, h => by
    rw [rowsF]; split
    · exact W32.nil
    · exact rowsF_w k _ _ (h.app (W32.one (dig32_len _)))
theorem rowsT_w (z : IN) : W32 (rowsT takeR z 16).1 := by unfold rowsT; exact rowsF_w _ _ _ W32.nil
theorem pS_w (t : List UInt8) : W32 (pS t).l ∧ W32 (pS t).m := by
  unfold pS
  refine ⟨?_, ?_⟩
  · show W32 (p2 t).1
    unfold p2; exact rowsT_w _
  · show W32 (p3 t).1
    unfold p3; exact rowsT_w _
theorem rowsF_len : ∀ (k : Nat) (z : IN) (acc : List Rf), (rowsF takeR k z acc).1.length ≤ acc.length + k
  | 0, z, acc => Nat.le_refl _
  | k + 1, z, acc => by
    rw [rowsF]; split
    · exact Nat.zero_le _
    · have := rowsF_len k (takeR z).2 (acc ++ [(takeR z).1])
      rw [List.length_append] at this
      simp only [List.length_cons, List.length_nil] at this
      omega
theorem bound16 (z : IN) : (boundF z 16 6).1 ≤ 16 := by
  unfold boundF
  by_cases h0 : (fourF z).1 > (if (0 : Int) > 16 then (0 : Int) else 16).toNat
  · rw [if_pos h0]; exact Nat.zero_le _
  · rw [if_neg h0]
    have : (if (0 : Int) > 16 then (0 : Int) else 16).toNat = 16 := by decide
    omega
theorem rowsT_len (z : IN) : (rowsT takeR z 16).1.length ≤ 16 := by
  have h1 := rowsF_len (boundF z 16 6).1 (boundF z 16 6).2 []
  have h2 := bound16 z
  unfold rowsT
  simp only [List.length_nil] at h1
  omega
end Go.Proofs.Ytejgpniaoccpoaa
