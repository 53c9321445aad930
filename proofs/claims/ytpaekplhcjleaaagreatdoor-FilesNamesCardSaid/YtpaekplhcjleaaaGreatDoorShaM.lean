/- The digest as a run over blocks. -/
import Derived.Test.YtpaekplhcjleaaaGreatDoorSha6
namespace Go.Proofs.YtpaekplhcjleaaaGreatDoor
open K
set_option linter.unusedVariables false

def un8 (L : List Nat) : List UInt8 := L.map UInt8.ofNat
def mixes : Nat → List UInt8 → List Nat → List Nat
  | 0, _, hs => hs
  | k + 1, l, hs => mixes k (l.drop 64) (mixF hs (l.take 64))
theorem lay_all : ∀ (l A B : List UInt8), B.length = l.length → lay (A ++ B) A.length l = A ++ l
  | [], A, B, h => by rw [List.eq_nil_of_length_eq_zero (l := B) (by simpa using h)]; rfl
  | x :: l, A, B, h => by
    match B, h with
    | y :: B, h =>
      have e : (A ++ y :: B).set A.length x = (A ++ [x]) ++ B := by simp
      have := lay_all l (A ++ [x]) B (by simpa using h)
      rw [lay, e]
      rw [List.length_append] at this
      simpa using this
theorem feed_mixes : ∀ (k : Nat) (l : List UInt8) (hs : List Nat) (bl : List UInt8), l.length = 64 * k → bl.length = 64 → (feed ⟨hs, bl, 0⟩ l).hs = mixes k l hs
  | 0, l, hs, bl, h, _ => by rw [List.eq_nil_of_length_eq_zero (l := l) (by omega)]; rfl
  | k + 1, l, hs, bl, h, hb => by
    have h1 : (l.take 64).length = 64 := by rw [List.length_take]; omega
    have hf := feed_full (l.take 64) hs bl 0 (by decide) (by omega)
    have hla : lay bl 0 (l.take 64) = l.take 64 := by
      have := lay_all (l.take 64) [] bl (by omega)
      simpa using this
    rw [hla] at hf
    have := feed_app ⟨hs, bl, 0⟩ (l.take 64) (l.drop 64)
    rw [List.take_append_drop] at this
    rw [this, hf, feed_mixes k (l.drop 64) _ _ (by rw [List.length_drop]; omega) h1, mixes]
/-- What stands behind N bytes. -/
def tailN (N : Nat) : List Nat := 128 :: (List.replicate ((119 - N % 64) % 64) 0 ++ (List.range 8).map fun i => lb (N % 18446744073709551616) / 2 ^ (56 - 8 * i) % 256)
theorem u8_ofmod (m : Nat) : UInt8.ofNat (m % 256) = UInt8.ofNat m := u8mod m
theorem un8_tail (N : Nat) : un8 (tailN N) = 128 :: (List.replicate ((119 - N % 64) % 64) 0 ++ tlr (lb (N % 18446744073709551616)) 8) := by
  unfold un8 tailN tlr tb
  rw [List.map_cons, List.map_append, List.map_replicate, List.map_map]
  congr 2
  simp only [Nat.sub_self, List.replicate_zero, List.append_nil]
  apply List.map_congr_left
  intro i _
  exact u8_ofmod _
theorem shaD_mixes (l : List UInt8) {k : Nat} (hk : l.length + (tailN l.length).length = 64 * k) : shaD l = dgr (mixes k (l ++ un8 (tailN l.length)) H8) 8 := by
  have hh : (feed sh0 l).held = l.length % 64 := by
    have := feed_held l sh0_ok
    rw [this]
    show (0 + l.length) % 64 = _
    rw [Nat.zero_add]
  unfold shaD shaEnd z3 pz padN
  rw [← feed_app, ← feed_app, hh]
  have e : l ++ ((128 :: List.replicate ((119 - l.length % 64) % 64) 0) ++ tlr (lb (l.length % 18446744073709551616)) 8) = l ++ un8 (tailN l.length) := by
    rw [un8_tail, List.cons_append]
  rw [e]
  congr 1
  exact feed_mixes k _ H8 _ (by rw [List.length_append]; unfold un8; rw [List.length_map]; exact hk) (by rw [List.length_replicate])
theorem tailN_len (N : Nat) : (N + (tailN N).length) % 64 = 0 := by
  unfold tailN
  rw [List.length_cons, List.length_append, List.length_replicate, List.length_map, List.length_range]
  omega
theorem mixes_succ : ∀ (k : Nat) (l : List UInt8) (hs : List Nat), mixes (k + 1) l hs = mixF (mixes k l hs) ((l.drop (64 * k)).take 64)
  | 0, l, hs => by rw [mixes, mixes, mixes, Nat.mul_zero, List.drop_zero]
  | k + 1, l, hs => by
    have ih := mixes_succ k (l.drop 64) (mixF hs (l.take 64))
    rw [mixes, ih, List.drop_drop, mixes, show 64 + 64 * k = 64 * (k + 1) by omega]
theorem mixes_len : ∀ (k : Nat) (l : List UInt8) {hs : List Nat}, hs.length = 8 → (mixes k l hs).length = 8
  | 0, _, _, h => h
  | k + 1, l, hs, h => mixes_len k _ (mixF_len _ h)
theorem mixes_lt : ∀ (k : Nat) (l : List UInt8) {hs : List Nat}, (∀ i, rg hs i < 2 ^ 32) → ∀ i, rg (mixes k l hs) i < 2 ^ 32
  | 0, _, _, h => h
  | k + 1, l, hs, h => mixes_lt k _ (mixF_lt _ h)

end Go.Proofs.YtpaekplhcjleaaaGreatDoor
