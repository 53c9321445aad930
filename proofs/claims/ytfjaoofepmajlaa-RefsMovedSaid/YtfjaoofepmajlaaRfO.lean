/- refs: acts as arguments, opened. -/
import Derived.Test.YtfjaoofepmajlaaOpen3
import Derived.Test.YtfjaoofepmajlaaRfB
namespace Go.Proofs.Ytfjaoofepmajlaa
open K
set_option linter.unusedVariables false

open Go.ChangeShapes Go.WideShapes
theorem list35 {cs : List Value} (h : cs.length = 35) : cs = (cs.drop 0).take 1 ++ (cs.drop 1).take 1 ++ (cs.drop 2).take 1 ++ (cs.drop 3).take 32 := by
  match cs, h with
  | a :: b :: c :: l, h =>
    have hl : l.length = 32 := by simpa using h
    simp [List.take_of_length_le (show l.length ≤ 32 by omega)]
theorem act_open {H : Type} {enc : TypeId × Value → H} {w : World} {base : Nat} {held : Bool} (cs : List Value) (fuel : Nat) (y : DataW H × List MemPlace) (hl : cs.length = 35) (h : DataW.trod enc Try.prog w base (fun _ => true) held fuel 32 cs = some y) :
    ∃ a : AcT, (a.t.length = 32 ∧ a.nm.size ≤ maxLen) ∧ cs = ac a := by
  obtain ⟨xs, m, _, _, _, hlen, hf⟩ := DataW.trod_struct Try.underlying32 h
  have c1 : Try.prog.cellsOf 3 = 1 := by kernel_rfl
  have c2 : Try.prog.cellsOf 9 = 1 := by kernel_rfl
  have c3 : Try.prog.cellsOf 24 = 32 := by kernel_rfl
  match xs, hlen with
  | [y0, y1, y2, y3], _ =>
    have h0 : DataW.trod enc Try.prog w base (fun _ => true) held m 3 ((cs.drop 0).take 1) = some y0 := by have q := hf 0 ⟨ "Do", 3, 0, false, "", "", 0⟩ rfl; simp only [c1] at q; exact q
    have h1 : DataW.trod enc Try.prog w base (fun _ => true) held m 9 ((cs.drop 1).take 1) = some y1 := by have q := hf 1 ⟨ "Name", 9, 1, false, "", "", 8⟩ rfl; simp only [c2] at q; exact q
    have h2 : DataW.trod enc Try.prog w base (fun _ => true) held m 3 ((cs.drop 2).take 1) = some y2 := by have q := hf 2 ⟨ "From", 3, 2, false, "", "", 24⟩ rfl; simp only [c1] at q; exact q
    have h3 : DataW.trod enc Try.prog w base (fun _ => true) held m 24 ((cs.drop 3).take 32) = some y3 := by have q := hf 3 ⟨ "To", 24, 3, false, "", "", 32⟩ rfl; simp only [c3] at q; exact q
    obtain ⟨d, hd, _⟩ := DataW.trod_int Try.underlying3 h0
    obtain ⟨nm, hnm, _, hns⟩ := DataW.trod_string Try.underlying9 h1
    obtain ⟨f, hf2, _⟩ := DataW.trod_int Try.underlying3 h2
    obtain ⟨ht, htb⟩ := trod_bytes Try.underlying24 Try.underlying5 (by kernel_rfl) (by kernel_rfl) h3
    refine ⟨⟨d, nm, f, ((cs.drop 3).take 32).map toB⟩, ⟨ht, hns⟩, ?_⟩
    have hb : (cs.drop 3).take 32 = (bv (((cs.drop 3).take 32).map toB)).toList := by rw [← htb]
    have h9 := list35 hl
    rw [hd, hnm, hf2] at h9
    unfold ac
    rw [← hb]
    exact h9

end Go.Proofs.Ytfjaoofepmajlaa
