/- refs: a state as an argument, opened. -/
import Derived.Test.YtejgpniaoccpoaaOpen4
import Derived.Test.YtejgpniaoccpoaaRfY
namespace Go.Proofs.Ytejgpniaoccpoaa
open K
set_option linter.unusedVariables false

open Go.ChangeShapes Go.WideShapes
theorem list33 {cs : List Value} (h : cs.length = 33) : cs = (cs.drop 0).take 1 ++ (cs.drop 1).take 32 := by
  match cs, h with
  | a :: l, h =>
    have hl : l.length = 32 := by simpa using h
    simp [List.take_of_length_le (show l.length ≤ 32 by omega)]
theorem list4s {cs : List Value} (h : cs.length = 4) : cs = (cs.drop 0).take 1 ++ (cs.drop 1).take 1 ++ (cs.drop 2).take 1 ++ (cs.drop 3).take 1 := by
  match cs, h with
  | [a, b, c, d], _ => rfl
theorem ref_open {H : Type} {enc : TypeId × Value → H} {w : World} {base : Nat} {held : Bool} (cs : List Value) (fuel : Nat) (y : DataW H × List MemPlace) (hl : cs.length = 33) (h : DataW.trod enc Try.prog w base (fun _ => true) held fuel 50 cs = some y) :
    ∃ a : Rf, (a.2.length = 32 ∧ a.1.size ≤ maxLen) ∧ cs = rc a := by
  obtain ⟨xs, m, _, _, _, hlen, hf⟩ := DataW.trod_struct Try.underlying50 h
  have c2 : Try.prog.cellsOf 9 = 1 := by kernel_rfl
  have c3 : Try.prog.cellsOf 45 = 32 := by kernel_rfl
  match xs, hlen with
  | [y0, y1], _ =>
    have h0 : DataW.trod enc Try.prog w base (fun _ => true) held m 9 ((cs.drop 0).take 1) = some y0 := by have q := hf 0 ⟨ "Name", 9, 0, false, "", "", 0⟩ rfl; simp only [c2] at q; exact q
    have h1 : DataW.trod enc Try.prog w base (fun _ => true) held m 45 ((cs.drop 1).take 32) = some y1 := by have q := hf 1 ⟨ "At", 45, 1, false, "", "", 16⟩ rfl; simp only [c3] at q; exact q
    obtain ⟨nm, hnm, _, hns⟩ := DataW.trod_string Try.underlying9 h0
    obtain ⟨ht, htb⟩ := trod_bytes Try.underlying45 Try.underlying5 (by kernel_rfl) (by kernel_rfl) h1
    refine ⟨(nm, ((cs.drop 1).take 32).map toB), ⟨ht, hns⟩, ?_⟩
    have hb : (cs.drop 1).take 32 = (bv (((cs.drop 1).take 32).map toB)).toList := by rw [← htb]
    have h9 := list33 hl
    rw [hnm] at h9
    unfold rc
    rw [← hb]
    exact h9
set_option maxRecDepth 100000 in
theorem state_open {H : Type} {enc : TypeId × Value → H} {w : World} {base : Nat} {held : Bool} {r : Reach} {b0 : Nat} {v : Value} {d : DataW H} {p : List MemPlace} (hv : Value.okWide Try.prog w r b0 25 v) (h : DataW.Trod enc Try.prog w base (fun _ => true) held 25 v d p) :
    ∃ (hd : ByteArray) (la ta : Option Addr) (cap ca : Nat) (l m : List Rf) (nx : Int) (Rl : List (Nat × Obj)), v = .agg #[.string hd, .slice la l.length cap, .slice ta m.length ca, .int .u64 nx] ∧ InR Rl la l ∧ InR Rl ta m ∧ W32 l ∧ W32 m ∧ Has w Rl ∧ l.length ≤ maxLen ∧ m.length ≤ maxLen ∧ (∀ x ∈ l, x.1.size ≤ maxLen) ∧ (∀ x ∈ m, x.1.size ≤ maxLen) ∧ hd.size ≤ maxLen ∧ 0 ≤ nx ∧ nx < 18446744073709551616 := by
  obtain ⟨cs, rfl, hsz⟩ := okWide_struct Try.underlying25 hv
  obtain ⟨fuel, hf0⟩ := h
  obtain ⟨xs, m, _, _, _, hlen, hf⟩ := DataW.trod_struct Try.underlying25 hf0
  have hsz4 : cs.toList.length = 4 := by rw [Array.length_toList, hsz]; kernel_rfl
  have c1 : Try.prog.cellsOf 9 = 1 := by kernel_rfl
  have c2 : Try.prog.cellsOf 22 = 1 := by kernel_rfl
  have c3 : Try.prog.cellsOf 23 = 1 := by kernel_rfl
  have hcl : (Value.agg cs).cells.toList = cs.toList := rfl
  rw [hcl] at hf
  match xs, hlen with
  | [y0, y1, y2, y3], _ =>
    have h0 : DataW.trod enc Try.prog w base (fun _ => true) held m 9 ((cs.toList.drop 0).take 1) = some y0 := by have q := hf 0 ⟨ "Head", 9, 0, false, "", "", 0⟩ rfl; simp only [c1] at q; exact q
    have h1 : DataW.trod enc Try.prog w base (fun _ => true) held m 22 ((cs.toList.drop 1).take 1) = some y1 := by have q := hf 1 ⟨ "Branches", 22, 1, false, "", "", 16⟩ rfl; simp only [c2] at q; exact q
    have h2 : DataW.trod enc Try.prog w base (fun _ => true) held m 22 ((cs.toList.drop 2).take 1) = some y2 := by have q := hf 2 ⟨ "Tags", 22, 2, false, "", "", 40⟩ rfl; simp only [c2] at q; exact q
    have h3 : DataW.trod enc Try.prog w base (fun _ => true) held m 23 ((cs.toList.drop 3).take 1) = some y3 := by have q := hf 3 ⟨ "Next", 23, 3, false, "", "", 64⟩ rfl; simp only [c3] at q; exact q
    obtain ⟨hd, hnm, _, hns⟩ := DataW.trod_string Try.underlying9 h0
    obtain ⟨la, cap, l, R1, e1, b1, b2, _, q1, hR1, hI1⟩ := trod_flat rc (fun a => a.2.length = 32 ∧ a.1.size ≤ maxLen) Try.underlying22 (by kernel_rfl) (by decide) (fun cs fuel y h1 h2 => ref_open cs fuel y h1 h2) h1
    obtain ⟨ta, ca, mm, R2, e2, b3, b4, _, q2, hR2, hI2⟩ := trod_flat rc (fun a => a.2.length = 32 ∧ a.1.size ≤ maxLen) Try.underlying22 (by kernel_rfl) (by decide) (fun cs fuel y h1 h2 => ref_open cs fuel y h1 h2) h2
    obtain ⟨nx, hn, _, hnw⟩ := DataW.trod_int Try.underlying23 h3
    have hw := wf_u64 nx hnw
    refine ⟨hd, la, ta, cap, ca, l, mm, nx, R1 ++ R2, ?_, hI1.mono (fun e he => List.mem_append_left _ he), hI2.mono (fun e he => List.mem_append_right _ he), fun x hx => (q1 x hx).1, fun x hx => (q2 x hx).1, Has.app hR1 hR2, Nat.le_trans b1 b2, Nat.le_trans b3 b4, fun x hx => (q1 x hx).2, fun x hx => (q2 x hx).2, hns, hw.1, by have := hw.2; omega⟩
    have h9 := list4s hsz4
    rw [hnm, e1, e2, hn] at h9
    exact congrArg Value.agg (Array.ext' h9)

end Go.Proofs.Ytejgpniaoccpoaa
