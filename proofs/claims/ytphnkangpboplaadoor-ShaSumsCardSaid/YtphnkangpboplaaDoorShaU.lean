/- Bytes fed into a digest, one by one. -/
import Derived.Test.YtphnkangpboplaaDoorShaT
namespace Go.Proofs.YtphnkangpboplaaDoor
open K
set_option linter.unusedVariables false

/-- What a digest has so far: sums, the block, how much of it is held. -/
structure Sh where
  hs : List Nat
  bl : List UInt8
  held : Nat
structure Sh.Ok (s : Sh) : Prop where
  hh : s.hs.length = 8
  hb : s.bl.length = 64
  hlt : ∀ i, rg s.hs i < 2 ^ 32
  held : s.held < 64
theorem mixF_len {hs : List Nat} (bl : List UInt8) (hh : hs.length = 8) : (mixF hs bl).length = 8 := sm_len _ hh 8
theorem mixF_lt {hs : List Nat} (bl : List UInt8) (hlt : ∀ i, rg hs i < 2 ^ 32) : ∀ i, rg (mixF hs bl) i < 2 ^ 32 := sm_lt _ hlt 8
/-- One byte more. -/
def feedB (s : Sh) (c : UInt8) : Sh := if s.held + 1 = 64 then ⟨mixF s.hs (s.bl.set s.held c), s.bl.set s.held c, 0⟩ else ⟨s.hs, s.bl.set s.held c, s.held + 1⟩
def feed (s : Sh) (l : List UInt8) : Sh := l.foldl feedB s
theorem feed_nil (s : Sh) : feed s [] = s := rfl
theorem feed_app (s : Sh) (a b : List UInt8) : feed s (a ++ b) = feed (feed s a) b := List.foldl_append ..
theorem feedB_ok {s : Sh} (h : s.Ok) (c : UInt8) : (feedB s c).Ok := by
  unfold feedB
  split
  · exact ⟨mixF_len _ h.hh, by simp [h.hb], mixF_lt _ h.hlt, Nat.zero_lt_succ 63⟩
  · have := h.held
    exact ⟨h.hh, by simp [h.hb], h.hlt, by show s.held + 1 < 64; omega⟩
theorem feed_ok : ∀ (l : List UInt8) {s : Sh}, s.Ok → (feed s l).Ok
  | [], s, h => h
  | c :: l, s, h => feed_ok l (feedB_ok h c)
theorem feedB_held {s : Sh} (h : s.Ok) (c : UInt8) : (feedB s c).held = (s.held + 1) % 64 := by
  have := h.held
  unfold feedB
  split <;> simp only <;> omega
theorem feed_held : ∀ (l : List UInt8) {s : Sh}, s.Ok → (feed s l).held = (s.held + l.length) % 64
  | [], s, h => by have := h.held; show s.held = (s.held + 0) % 64; omega
  | c :: l, s, h => by
    have e := feed_held l (feedB_ok h c)
    rw [feedB_held h c] at e
    show (feed (feedB s c) l).held = _
    rw [e, List.length_cons]; omega
/-- Bytes laid over a block. -/
def lay (bl : List UInt8) (off : Nat) : List UInt8 → List UInt8
  | [] => bl
  | c :: l => lay (bl.set off c) (off + 1) l
theorem lay_len : ∀ (l bl : List UInt8) (off : Nat), (lay bl off l).length = bl.length
  | [], bl, off => rfl
  | c :: l, bl, off => by rw [lay, lay_len l, List.length_set]
theorem feed_part : ∀ (l : List UInt8) (hs : List Nat) (bl : List UInt8) (held : Nat), held + l.length < 64 → feed ⟨hs, bl, held⟩ l = ⟨hs, lay bl held l, held + l.length⟩
  | [], hs, bl, held, _ => rfl
  | c :: l, hs, bl, held, h => by
    rw [List.length_cons] at h
    have e : feedB ⟨hs, bl, held⟩ c = ⟨hs, bl.set held c, held + 1⟩ := by unfold feedB; rw [if_neg (by show ¬ held + 1 = 64; omega)]
    show feed (feedB ⟨hs, bl, held⟩ c) l = _
    rw [e, feed_part l hs (bl.set held c) (held + 1) (by omega), lay, List.length_cons, show held + 1 + l.length = held + (l.length + 1) by omega]
theorem feed_full : ∀ (l : List UInt8) (hs : List Nat) (bl : List UInt8) (held : Nat), held < 64 → held + l.length = 64 → feed ⟨hs, bl, held⟩ l = ⟨mixF hs (lay bl held l), lay bl held l, 0⟩
  | [], hs, bl, held, h0, h => by simp at h; omega
  | c :: l, hs, bl, held, h0, h => by
    rw [List.length_cons] at h
    show feed (feedB ⟨hs, bl, held⟩ c) l = _
    by_cases hl : held + 1 = 64
    · obtain rfl : l = [] := List.eq_nil_of_length_eq_zero (by omega)
      unfold feedB; rw [if_pos hl]; rfl
    · have e : feedB ⟨hs, bl, held⟩ c = ⟨hs, bl.set held c, held + 1⟩ := by unfold feedB; rw [if_neg hl]
      rw [e, feed_full l hs (bl.set held c) (held + 1) (by omega) (by omega), lay]
theorem st_setByte {hs : List Nat} {bl : List UInt8} {held total j : Nat} (hh : hs.length = 8) (hb : bl.length = 64) (hj : j < 64) (c : UInt8) :
    (stC hs bl held total).setIfInBounds (8 + j) (.int .u8 (c.toNat : Int)) = stC hs (bl.set j c) held total := by
  have h1 := bv_set (l := bl) (i := j) (x := (c.toNat : Int)) (by omega) (by have := UInt8.toNat_lt c; omega)
  have h2 := wlen hh; have h3 := blen hb
  apply Array.ext'
  simp only [stC, List.setIfInBounds_toArray]
  rw [List.set_append_right _ _ (by omega), h2, show 8 + j - 8 = j by omega, List.set_append_left _ _ (by omega)]
  rw [show UInt8.ofNat ((c.toNat : Int)).toNat = c by simp] at h1
  rw [← h1, Array.toList_setIfInBounds]
theorem spl_lay : ∀ (l : List UInt8) {hs : List Nat} {bl : List UInt8} {held total j : Nat}, hs.length = 8 → bl.length = 64 → j + l.length ≤ 64 → spl (stC hs bl held total) (8 + j) (bv l).toList = stC hs (lay bl j l) held total
  | [], hs, bl, held, total, j, hh, hb, hj => rfl
  | c :: l, hs, bl, held, total, j, hh, hb, hj => by
    rw [List.length_cons] at hj
    show spl ((stC hs bl held total).setIfInBounds (8 + j) (.int .u8 (c.toNat : Int))) (8 + j + 1) (bv l).toList = _
    rw [st_setByte hh hb (by omega), show 8 + j + 1 = 8 + (j + 1) by omega, spl_lay l hh (by simp [hb]) (by omega), lay]
theorem off_eq {held : Nat} (h : held < 64) : (if 64 = held then 8 else (addO 8 held)) = 8 + held := by rw [if_neg (by omega), addO_eq]
theorem ext_list (p : ByteArray) (n : Nat) : (p.extract n p.size).data.toList = p.data.toList.drop n := by
  rw [ByteArray.data_extract, Array.toList_extract]
  have : p.size = p.data.toList.length := by simp
  rw [this, List.extract_eq_take_drop, List.take_of_length_le (by simp)]
theorem part_len {p : ByteArray} {n : Nat} (h : n ≤ p.size) : (p.data.toList.take n).length = n := by
  have : p.size = p.data.toList.length := by simp
  rw [List.length_take]; omega
theorem feed_ext (s : Sh) (p : ByteArray) (n : Nat) : feed (feed s (p.data.toList.take n)) (p.extract n p.size).data.toList = feed s p.data.toList := by
  rw [ext_list, ← feed_app, List.take_append_drop]
/-- How much of a text fits. -/
def cn (p : ByteArray) (held : Nat) : Nat := min p.size (64 - held)
theorem ext_size (p : ByteArray) (n : Nat) (h : n ≤ p.size) : (p.extract n p.size).size = p.size - n := by
  rw [ByteArray.size_extract]; omega

end Go.Proofs.YtphnkangpboplaaDoor
