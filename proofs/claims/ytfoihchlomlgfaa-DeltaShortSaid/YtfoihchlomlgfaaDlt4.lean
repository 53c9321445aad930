/- delta: what is made comes back by it, and by no base of another length; how long a delta is. -/
import Derived.Test.YtfoihchlomlgfaaDlt3
namespace Go.Proofs.Ytfoihchlomlgfaa
open K
set_option linter.unusedVariables false

theorem pow256 (k : Nat) : 256 ^ (k + 1) = 256 ^ k * 256 := Nat.pow_succ ..
theorem val_be (n : Nat) : ∀ (k m : Nat), (m + 1) * 256 ^ k ≤ 18446744073709551616 → (be n k).foldl vf m = m * 256 ^ k + n % 256 ^ k
  | 0, m, _ => by simp [be, Nat.mod_one]
  | k + 1, m, h => by
    have hk : 0 < 256 ^ k := Nat.pow_pos (by decide)
    have hb : (UInt8.ofNat (n / 256 ^ k)).toNat = n / 256 ^ k % 256 := by simp
    have hlt : n / 256 ^ k % 256 < 256 := Nat.mod_lt _ (by decide)
    rw [pow256, ← Nat.mul_assoc, Nat.mul_right_comm] at h
    have hm : m * 256 + 256 ≤ 18446744073709551616 := Nat.le_trans (by have := Nat.mul_le_mul_left ((m + 1) * 256) hk; omega) h
    have hv : vf m (UInt8.ofNat (n / 256 ^ k)) = m * 256 + n / 256 ^ k % 256 := by unfold vf; rw [hb]; omega
    rw [be, List.foldl_cons, hv, val_be n k _ (Nat.le_trans (Nat.mul_le_mul_right _ (by omega)) h), pow256]
    have e1 : n % (256 ^ k * 256) = n % 256 ^ k + 256 ^ k * (n / 256 ^ k % 256) := Nat.mod_mul ..
    rw [e1, Nat.add_mul, Nat.mul_comm (n / 256 ^ k % 256) (256 ^ k), Nat.mul_assoc, Nat.mul_comm 256 (256 ^ k)]
    omega
theorem valF_be (n k : Nat) (hk : 256 ^ k ≤ 18446744073709551616) (hn : n < 256 ^ k) : valF (be n k) = n := by
  unfold valF
  rw [val_be n k 0 (by omega), Nat.mod_eq_of_lt hn]; omega
theorem nextF_app (a r : List UInt8) {n : Int} (h : n = (a.length : Int)) : nextF ⟨0, a ++ r⟩ n = (a, ⟨0, r⟩) := by
  subst h
  unfold nextF
  rw [if_neg (by simp), if_neg (by simp only [List.length_append]; omega)]
  simp
theorem fourF_app (n : Nat) (r : List UInt8) (h : n < 4294967296) : fourF ⟨0, four n ++ r⟩ = (n, ⟨0, r⟩) := by
  unfold fourF
  rw [nextF_app (four n) r (by rw [show (four n).length = 4 from be_len _ _]; rfl), show valF (four n) = n from valF_be n 4 (by decide) h, Nat.mod_eq_of_lt h]
theorem eightF_app (n : Nat) (r : List UInt8) (h : n < 18446744073709551616) : eightF ⟨0, eight n ++ r⟩ = (n, ⟨0, r⟩) := by
  unfold eightF
  rw [nextF_app (eight n) r (by rw [show (eight n).length = 8 from be_len _ _]; rfl), show valF (eight n) = n from valF_be n 8 (by decide) h]
theorem boundF_app (n : Nat) (r : List UInt8) {most e : Int} (h : n < 4294967296) (hm : (n : Int) ≤ most) : boundF ⟨0, four n ++ r⟩ most e = (n, ⟨0, r⟩) := by
  unfold boundF
  rw [fourF_app n r h, if_neg (by split <;> simp only <;> omega)]
theorem boundF_many (n : Nat) (r : List UInt8) {most e : Int} (h : n < 4294967296) (h0 : 0 ≤ most) (hm : most < (n : Int)) : boundF ⟨0, four n ++ r⟩ most e = (0, ⟨e, r⟩) := by
  unfold boundF
  rw [fourF_app n r h, if_pos (by split <;> simp only <;> omega)]
  rfl
theorem textF_app (s : ByteArray) (r : List UInt8) {most : Int} (h : s.size < 4294967296) (hm : (s.size : Int) ≤ most) : textF ⟨0, text4 s ++ r⟩ most = (s.data.toList, ⟨0, r⟩) := by
  unfold textF text4
  rw [List.append_assoc, show be s.size 4 = four s.size from rfl, boundF_app s.size (s.data.toList ++ r) h hm]
  exact nextF_app s.data.toList r (by rw [ba_len])
theorem byteF_app (n : Nat) (r : List UInt8) (h : n < 256) : byteF ⟨0, be n 1 ++ r⟩ = (n, ⟨0, r⟩) := by
  unfold byteF
  rw [nextF_app (be n 1) r (by rw [be_len]; rfl), valF_be n 1 (by decide) (by simpa using h), Nat.mod_eq_of_lt h]
/-- Parts that come back. -/
structure PtIn (p : PT) : Prop where
  ok : p.Ok
  sort : (p.kind = 0 ∧ p.text = ByteArray.empty) ∨ (p.kind = 1 ∧ p.pat = 0 ∧ p.n = 0 ∧ p.text.size ≤ 32768)
theorem takeP_app (p : PT) (r : List UInt8) (h : PtIn p) : takeP ⟨0, layP p ++ r⟩ = (p, ⟨0, r⟩) := by
  obtain ⟨k, pt, n, s⟩ := p
  have hp := h.ok.pat
  have hn := h.ok.n
  rcases h.sort with ⟨hk, ht⟩ | ⟨hk, h1, h2, ht⟩
  · simp only at hk ht hp hn
    subst hk; subst ht
    have e : layP ⟨0, pt, n, ByteArray.empty⟩ ++ r = be 0 1 ++ (four pt ++ (four n ++ r)) := by
      unfold layP; rw [if_pos rfl]; simp only [List.append_assoc]
    rw [e]
    unfold takeP
    rw [byteF_app 0 _ (by decide), if_pos rfl]
    simp only
    rw [fourF_app pt _ hp]
    simp only
    rw [fourF_app n _ hn]
  · simp only at hk h1 h2 ht
    subst hk; subst h1; subst h2
    have e : layP ⟨1, 0, 0, s⟩ ++ r = be 1 1 ++ (text4 s ++ r) := by
      unfold layP; rw [if_neg Nat.one_ne_zero]; simp only [List.append_assoc]
    rw [e]
    unfold takeP
    rw [byteF_app 1 _ (by decide), if_neg Nat.one_ne_zero, if_pos rfl]
    simp only
    rw [textF_app s r (by omega) (by omega), tx_back]
theorem rowsF_parts : ∀ (ps : List PT) (r : List UInt8) (acc : List PT), (∀ p ∈ ps, PtIn p) → rowsF takeP ps.length ⟨0, flat layP ps ++ r⟩ acc = (acc ++ ps, ⟨0, r⟩)
  | [], r, acc, _ => by simp [rowsF, flat]
  | x :: xs, r, acc, h => by
    have ht := takeP_app x (flat layP xs ++ r) (h x (List.mem_cons_self ..))
    have hf : flat layP (x :: xs) ++ r = layP x ++ (flat layP xs ++ r) := by simp [flat]
    rw [List.length_cons, hf, rowsF_succ (by rw [ht]; simp), ht, rowsF_parts xs r _ (fun p hp => h p (List.mem_cons_of_mem _ hp)), List.append_assoc]
    rfl
theorem mkP_in {a t : ByteArray} (ha : a.size ≤ 10000000) (ht : t.size ≤ 32768) : ∀ p ∈ mkP a t, PtIn p := by
  have hfb := fb_le a t
  have hms := md_size a t
  intro p hp
  unfold mkP at hp
  rcases List.mem_append.1 hp with hp | hp
  · split at hp
    · rw [List.mem_singleton.1 hp]
      exact ⟨⟨by show 0 < 256; decide, by show 0 < 4294967296; decide, by show frN a t < _; omega⟩, .inl ⟨rfl, rfl⟩⟩
    · cases hp
  · rcases List.mem_append.1 hp with hp | hp
    · split at hp
      · cases hp
      · rw [List.mem_singleton.1 hp]
        exact ⟨⟨by show 1 < 256; decide, by show 0 < 4294967296; decide, by show 0 < 4294967296; decide⟩, .inr ⟨rfl, rfl, rfl, by show (md a t).size ≤ _; omega⟩⟩
    · split at hp
      · rw [List.mem_singleton.1 hp]
        exact ⟨⟨by show 0 < 256; decide, by show a.size - bkN a t < _; omega, by show bkN a t < _; omega⟩, .inl ⟨rfl, rfl⟩⟩
      · cases hp
theorem mkP_len (a t : ByteArray) : (mkP a t).length ≤ 3 := by
  unfold mkP
  rw [List.length_append, List.length_append]
  have h1 : (if 0 < frN a t then [(⟨0, 0, frN a t, ByteArray.empty⟩ : PT)] else []).length ≤ 1 := by split <;> simp
  have h2 : (if mdE a t = true then [] else [(⟨1, 0, 0, md a t⟩ : PT)]).length ≤ 1 := by split <;> simp
  have h3 : (if 0 < bkN a t then [(⟨0, a.size - bkN a t, bkN a t, ByteArray.empty⟩ : PT)] else []).length ≤ 1 := by split <;> simp
  omega
theorem parse_mk {a t : ByteArray} (ha : a.size ≤ 10000000) (ht : t.size ≤ 32768) : aFrom (mk a t) = a.size ∧ aMost (mk a t) = t.size ∧ aRow (mk a t) = (mkP a t, ⟨0, []⟩) := by
  have e : mk a t = four a.size ++ (four t.size ++ rowP (mkP a t)) := by unfold mk; rw [List.append_assoc]
  have h1 : fourF ⟨0, mk a t⟩ = (a.size, ⟨0, four t.size ++ rowP (mkP a t)⟩) := by rw [e]; exact fourF_app a.size _ (by omega)
  have h2 : fourF ⟨0, four t.size ++ rowP (mkP a t)⟩ = (t.size, ⟨0, rowP (mkP a t)⟩) := fourF_app t.size _ (by omega)
  have hl := mkP_len a t
  refine ⟨by unfold aFrom; rw [h1], by unfold aMost; rw [h1]; simp only; rw [h2], ?_⟩
  unfold aRow aZ rowsT
  rw [h1]
  simp only
  rw [h2]
  unfold rowP
  rw [boundF_app (mkP a t).length _ (by omega) (by omega)]
  have := rowsF_parts (mkP a t) [] [] (mkP_in ha ht)
  rw [List.append_nil] at this
  exact this
theorem end_mk {a t : ByteArray} (ha : a.size ≤ 10000000) (ht : t.size ≤ 32768) : aEnd (mk a t) = 0 := by
  unfold aEnd
  rw [(parse_mk ha ht).2.2]; rfl
theorem apply_other {a b t : ByteArray} (ha : a.size ≤ 10000000) (ht : t.size ≤ 32768) (h : b.size ≠ a.size) : applyF b (mk a t) = ([], 31) :=
  applyF_base (by rw [end_mk ha ht]; simp) (by rw [(parse_mk ha ht).1]; exact h)
theorem applyP_some {a : ByteArray} {p : PT} {ps : List PT} {acc : List UInt8} (h : ¬ (p.kind = 0 ∧ a.size < p.pat + p.n)) (hl : acc.length + (pieceF a p).size ≤ 32768) : applyP a (p :: ps) acc = applyP a ps (acc ++ (pieceF a p).data.toList) := by
  rw [applyP, if_neg h, if_neg (by omega)]
theorem ext_list (b : ByteArray) (i j : Nat) : (b.extract i j).data.toList = (b.data.toList.take j).drop i := by
  rw [ByteArray.data_extract, Array.toList_extract, List.extract_eq_take_drop, ← List.drop_take]
theorem take_eq {x y : List UInt8} {n : Nat} (hx : n ≤ x.length) (hy : n ≤ y.length) (h : ∀ j, j < n → x.getD j 0 = y.getD j 0) : x.take n = y.take n := by
  apply List.ext_getElem
  · rw [List.length_take, List.length_take]; omega
  · intro j h1 h2
    rw [List.length_take] at h1
    have := h j (by omega)
    rw [List.getD_eq_getElem?_getD, List.getD_eq_getElem?_getD, List.getElem?_eq_getElem (by omega), List.getElem?_eq_getElem (by omega)] at this
    rw [List.getElem_take, List.getElem_take]
    simpa using this
theorem drop_eq {x y : List UInt8} {n : Nat} (hx : n ≤ x.length) (hy : n ≤ y.length) (h : ∀ j, j < n → x.getD (x.length - 1 - j) 0 = y.getD (y.length - 1 - j) 0) : x.drop (x.length - n) = y.drop (y.length - n) := by
  apply List.ext_getElem
  · rw [List.length_drop, List.length_drop]; omega
  · intro j h1 h2
    rw [List.length_drop] at h1
    have := h (n - 1 - j) (by omega)
    rw [show x.length - 1 - (n - 1 - j) = x.length - n + j by omega, show y.length - 1 - (n - 1 - j) = y.length - n + j by omega, List.getD_eq_getElem?_getD, List.getD_eq_getElem?_getD, List.getElem?_eq_getElem (by omega), List.getElem?_eq_getElem (by omega)] at this
    rw [List.getElem_drop, List.getElem_drop]
    simpa using this
theorem sb_eq {a b : ByteArray} {i j : Int} (h : sbyte a i = sbyte b j) : a.data.toList.getD i.toNat 0 = b.data.toList.getD j.toNat 0 := by
  unfold sbyte at h
  exact UInt8.toNat_inj.1 (Int.ofNat.inj h)
theorem front_list (a t : ByteArray) : a.data.toList.take (frN a t) = t.data.toList.take (frN a t) := by
  have hfb := fb_le a t
  refine take_eq (by rw [ba_len]; omega) (by rw [ba_len]; omega) fun j hj => ?_
  have h := cnt_all (p := pF a t) (n := mn a t) hj
  unfold pF at h
  have := sb_eq (beq_iff_eq.1 h)
  simpa using this
theorem back_list (a t : ByteArray) : a.data.toList.drop (a.size - bkN a t) = t.data.toList.drop (t.size - bkN a t) := by
  have hfb := fb_le a t
  have h1 : a.data.toList.length = a.size := ba_len a
  have h2 : t.data.toList.length = t.size := ba_len t
  have := drop_eq (x := a.data.toList) (y := t.data.toList) (n := bkN a t) (by omega) (by omega) fun j hj => by
    have h := cnt_all (p := qB a t) (n := mn a t - frN a t) hj
    unfold qB at h
    have := sb_eq (beq_iff_eq.1 h)
    rw [show (((a.size : Int) - 1) - (j : Int)).toNat = a.size - 1 - j by omega, show (((t.size : Int) - 1) - (j : Int)).toNat = t.size - 1 - j by omega] at this
    rw [h1, h2]; exact this
  rw [h1, h2] at this
  exact this
theorem whole (a t : ByteArray) : a.data.toList.take (frN a t) ++ ((md a t).data.toList ++ a.data.toList.drop (a.size - bkN a t)) = t.data.toList := by
  have hfb := fb_le a t
  have h2 : t.data.toList.length = t.size := ba_len t
  rw [front_list, back_list]
  unfold md
  rw [ext_list]
  have e1 : t.data.toList.take (t.size - bkN a t) = t.data.toList.take (frN a t) ++ (t.data.toList.take (t.size - bkN a t)).drop (frN a t) := by
    have := (List.take_append_drop (frN a t) (t.data.toList.take (t.size - bkN a t))).symm
    rwa [List.take_take, Nat.min_eq_left (by omega)] at this
  rw [← List.append_assoc, ← e1, List.take_append_drop]
theorem piece1 {a t : ByteArray} : (pieceF a ⟨0, 0, frN a t, ByteArray.empty⟩).data.toList = a.data.toList.take (frN a t) := by
  show (a.extract 0 (0 + frN a t)).data.toList = _
  rw [ext_list, Nat.zero_add, List.drop_zero]
theorem piece2 {a t : ByteArray} : (pieceF a ⟨1, 0, 0, md a t⟩).data.toList = (md a t).data.toList := rfl
theorem piece3 {a t : ByteArray} : (pieceF a ⟨0, a.size - bkN a t, bkN a t, ByteArray.empty⟩).data.toList = a.data.toList.drop (a.size - bkN a t) := by
  have hfb := fb_le a t
  show (a.extract (a.size - bkN a t) (a.size - bkN a t + bkN a t)).data.toList = _
  rw [ext_list, List.take_of_length_le (by rw [ba_len]; omega)]
theorem applyP_mk {a t : ByteArray} (ht : t.size ≤ 32768) : applyP a (mkP a t) [] = (0, t.data.toList) := by
  have hfb := fb_le a t
  have hms := md_size a t
  have hw := whole a t
  have l1 : (a.data.toList.take (frN a t)).length = frN a t := by rw [List.length_take, ba_len]; omega
  have l2 : (md a t).data.toList.length = (md a t).size := ba_len _
  have l3 : (a.data.toList.drop (a.size - bkN a t)).length = bkN a t := by rw [List.length_drop, ba_len]; omega
  have s1 : (pieceF a ⟨0, 0, frN a t, ByteArray.empty⟩).size = frN a t := by rw [← ba_len, piece1, l1]
  have s2 : (pieceF a ⟨1, 0, 0, md a t⟩).size = (md a t).size := rfl
  have s3 : (pieceF a ⟨0, a.size - bkN a t, bkN a t, ByteArray.empty⟩).size = bkN a t := by rw [← ba_len, piece3, l3]
  have c3 : ∀ acc : List UInt8, acc.length + bkN a t ≤ 32768 → applyP a (if 0 < bkN a t then [⟨0, a.size - bkN a t, bkN a t, ByteArray.empty⟩] else []) acc = (0, acc ++ a.data.toList.drop (a.size - bkN a t)) := by
    intro acc hacc
    split
    · rw [applyP_some (by rintro ⟨_, h⟩; have h' : a.size < (a.size - bkN a t) + bkN a t := h; omega) (by rw [s3]; omega), piece3]; rfl
    · rw [List.eq_nil_of_length_eq_zero (show (a.data.toList.drop (a.size - bkN a t)).length = 0 by omega), List.append_nil]; rfl
  have c2 : ∀ acc : List UInt8, acc.length + ((md a t).size + bkN a t) ≤ 32768 → applyP a ((if mdE a t = true then [] else [⟨1, 0, 0, md a t⟩]) ++ (if 0 < bkN a t then [⟨0, a.size - bkN a t, bkN a t, ByteArray.empty⟩] else [])) acc = (0, acc ++ ((md a t).data.toList ++ a.data.toList.drop (a.size - bkN a t))) := by
    intro acc hacc
    by_cases hm : mdE a t = true
    · rw [if_pos hm, List.nil_append, c3 acc (by omega)]
      rw [mdE_eq] at hm
      have := of_decide_eq_true hm
      rw [List.eq_nil_of_length_eq_zero (show (md a t).data.toList.length = 0 by omega), List.nil_append]
    · rw [if_neg hm, List.singleton_append, applyP_some (by rintro ⟨h, _⟩; exact absurd h Nat.one_ne_zero) (by rw [s2]; omega), piece2, c3 _ (by rw [List.length_append, l2]; omega), List.append_assoc]
  unfold mkP
  by_cases hf : 0 < frN a t
  · rw [if_pos hf, List.singleton_append, applyP_some (by rintro ⟨_, h⟩; have h' : a.size < 0 + frN a t := h; omega) (by rw [s1, List.length_nil]; omega), piece1, List.nil_append, c2 _ (by rw [l1]; omega), hw]
  · rw [if_neg hf, List.nil_append, c2 [] (by rw [List.length_nil]; omega), List.nil_append]
    rw [List.eq_nil_of_length_eq_zero (show (a.data.toList.take (frN a t)).length = 0 by omega), List.nil_append] at hw
    rw [hw]
/-- A text comes back by its delta. -/
theorem apply_mk {a t : ByteArray} (ha : a.size ≤ 10000000) (ht : t.size ≤ 32768) : applyF a (mk a t) = (t.data.toList, 0) := by
  obtain ⟨h1, h2, h3⟩ := parse_mk ha ht
  refine applyF_ok (by rw [end_mk ha ht]; simp) (by rw [h1]; simp) (by rw [h3]; exact applyP_mk ht) (by rw [h2, ba_len]; simp)
theorem mk_len (a t : ByteArray) : (mk a t).length ≤ 35 + (md a t).size := by
  have f4 : ∀ n, (four n).length = 4 := fun n => be_len _ _
  have e : (mk a t).length = 12 + (flat layP (mkP a t)).length := by
    unfold mk rowP
    have x1 : ((four a.size ++ four t.size) ++ (four (mkP a t).length ++ flat layP (mkP a t))).length = (four a.size ++ four t.size).length + (four (mkP a t).length ++ flat layP (mkP a t)).length := List.length_append
    have x2 : (four a.size ++ four t.size).length = (four a.size).length + (four t.size).length := List.length_append
    have x3 : (four (mkP a t).length ++ flat layP (mkP a t)).length = (four (mkP a t).length).length + (flat layP (mkP a t)).length := List.length_append
    have y1 := f4 a.size
    have y2 := f4 t.size
    have y3 := f4 (mkP a t).length
    omega
  rw [e]
  unfold mkP
  rw [flat_app, flat_app, List.length_append, List.length_append]
  have h1 : (flat layP (if 0 < frN a t then [(⟨0, 0, frN a t, ByteArray.empty⟩ : PT)] else [])).length ≤ 9 := by
    split
    · rw [flat_one, layP_copy, List.length_cons, List.length_append, be_len, be_len]; decide
    · exact Nat.zero_le _
  have h2 : (flat layP (if mdE a t = true then [] else [(⟨1, 0, 0, md a t⟩ : PT)])).length ≤ 5 + (md a t).size := by
    split
    · exact Nat.zero_le _
    · rw [flat_one, layP_new, List.length_cons, text4_len]; omega
  have h3 : (flat layP (if 0 < bkN a t then [(⟨0, a.size - bkN a t, bkN a t, ByteArray.empty⟩ : PT)] else [])).length ≤ 9 := by
    split
    · rw [flat_one, layP_copy, List.length_cons, List.length_append, be_len, be_len]; decide
    · exact Nat.zero_le _
  omega
theorem cnt_ge {p : Nat → Bool} {n k : Nat} (hk : k ≤ n) (h : ∀ j, j < k → p j = true) : k ≤ cnt p n := by
  rcases Nat.lt_or_ge (cnt p n) k with hlt | hge
  · exfalso
    have hc := cnt_le p n
    have hall : ∀ j, j < cnt p n → p j = true := fun j hj => cnt_all hj
    have h2 : cnt p n = cnt p n + 1 := by
      obtain ⟨m, hm⟩ : ∃ m, n = (cnt p n + 1) + m := ⟨n - (cnt p n + 1), by omega⟩
      have : ∀ c, cnt p n = c → c < k → cnt p n ≥ c + 1 := by
        intro c hcc hck
        unfold cnt
        rw [show n = (c + 1) + (n - (c + 1)) by omega, List.range_add, List.takeWhile_append_of_pos (fun a ha => h a (by have := List.mem_range.1 ha; omega)), List.length_append, List.length_range]
        omega
      have := this _ rfl hlt
      omega
    omega
  · exact hge
theorem app_get1 {x y z : ByteArray} {j : Nat} (h : j < x.size) : ((x ++ y) ++ z).data.toList.getD j 0 = x.data.toList.getD j 0 := by
  rw [app_list, app_list, List.append_assoc, List.getD_eq_getElem?_getD, List.getElem?_append_left (by rw [ba_len]; exact h), List.getD_eq_getElem?_getD]
theorem app_get3 {x y z : ByteArray} {j : Nat} (h : j < z.size) : ((x ++ y) ++ z).data.toList.getD ((x.size + y.size + z.size) - 1 - j) 0 = z.data.toList.getD (z.size - 1 - j) 0 := by
  rw [app_list, app_list, List.getD_eq_getElem?_getD, List.getElem?_append_right (by rw [List.length_append, ba_len, ba_len]; omega), List.getD_eq_getElem?_getD, List.length_append, ba_len, ba_len, show x.size + y.size + z.size - 1 - j - (x.size + y.size) = z.size - 1 - j by omega]
theorem size3 (x y z : ByteArray) : ((x ++ y) ++ z).size = x.size + y.size + z.size := by rw [ByteArray.size_append, ByteArray.size_append]
/-- What differs in the middle alone. -/
theorem md_mid (f m o b : ByteArray) : (md ((f ++ o) ++ b) ((f ++ m) ++ b)).size ≤ m.size := by
  have hms := md_size ((f ++ o) ++ b) ((f ++ m) ++ b)
  have z1 := size3 f o b
  have z2 := size3 f m b
  have hmn : mn ((f ++ o) ++ b) ((f ++ m) ++ b) = min (f.size + o.size + b.size) (f.size + m.size + b.size) := by unfold mn; rw [z1, z2]
  have h1 : f.size ≤ frN ((f ++ o) ++ b) ((f ++ m) ++ b) := cnt_ge (by omega) fun j hj => by
    unfold pF sbyte
    rw [Int.toNat_natCast, app_get1 hj, app_get1 hj]; exact beq_self_eq_true _
  have hq : ∀ j, j < b.size → qB ((f ++ o) ++ b) ((f ++ m) ++ b) j = true := fun j hj => by
    unfold qB sbyte
    rw [show (((((f ++ o) ++ b).size : Int) - 1) - (j : Int)).toNat = (f.size + o.size + b.size) - 1 - j by omega, show (((((f ++ m) ++ b).size : Int) - 1) - (j : Int)).toNat = (f.size + m.size + b.size) - 1 - j by omega, app_get3 hj, app_get3 hj]
    exact beq_self_eq_true _
  rcases Nat.lt_or_ge b.size (mn ((f ++ o) ++ b) ((f ++ m) ++ b) - frN ((f ++ o) ++ b) ((f ++ m) ++ b)) with hb | hb
  · have h2 : b.size ≤ bkN ((f ++ o) ++ b) ((f ++ m) ++ b) := cnt_ge (by omega) hq
    omega
  · have h2 : mn ((f ++ o) ++ b) ((f ++ m) ++ b) - frN ((f ++ o) ++ b) ((f ++ m) ++ b) ≤ bkN ((f ++ o) ++ b) ((f ++ m) ++ b) := cnt_ge (Nat.le_refl _) fun j hj => hq j (by omega)
    omega
theorem mk_short (f m o b : ByteArray) : (mk ((f ++ o) ++ b) ((f ++ m) ++ b)).length ≤ m.size + 35 := by
  have h1 := mk_len ((f ++ o) ++ b) ((f ++ m) ++ b)
  have h2 := md_mid f m o b
  omega
theorem front_eq (a t : ByteArray) : ((a.extract 0 (frN a t)).toList == (t.extract 0 (frN a t)).toList) = true := by
  rw [baToList, baToList, ext_list, ext_list, List.drop_zero, List.drop_zero, front_list]; exact beq_self_eq_true _
theorem back_eq (a t : ByteArray) : ((a.extract ((a.size : Int) - (bkN a t : Int)).toNat a.size).toList == (t.extract ((t.size : Int) - (bkN a t : Int)).toNat t.size).toList) = true := by
  have hfb := fb_le a t
  rw [baToList, baToList, ext_list, ext_list, List.take_of_length_le (by rw [ba_len]; omega), List.take_of_length_le (by rw [ba_len]; omega), show ((a.size : Int) - (bkN a t : Int)).toNat = a.size - bkN a t by omega, show ((t.size : Int) - (bkN a t : Int)).toNat = t.size - bkN a t by omega, back_list]
  exact beq_self_eq_true _
theorem emp_eq {s : ByteArray} (h : s.size = 0) : (s.toList == (⟨#[]⟩ : ByteArray).toList) = true := by
  have h1 : s.data.toList.length = s.size := ba_len s
  rw [baToList, baToList, List.eq_nil_of_length_eq_zero (show s.data.toList.length = 0 by omega)]; rfl
theorem emp_ne {s : ByteArray} (h : ¬ s.size = 0) : (s.toList == (⟨#[]⟩ : ByteArray).toList) = false := by
  have h1 : s.data.toList.length = s.size := ba_len s
  rw [baToList, baToList]
  cases hs : s.data.toList with
  | nil => rw [hs] at h1; exact absurd h1.symm h
  | cons x l => rfl

end Go.Proofs.Ytfoihchlomlgfaa
