/- disk: acts as arguments, opened; the law. -/
import Derived.Test.YtnoipbbcpiaemaaOpen4
import Derived.Test.YtnoipbbcpiaemaaDkF
namespace Go.Proofs.Ytnoipbbcpiaemaa
open K
set_option linter.unusedVariables false

open Go.ChangeShapes Go.WideShapes
theorem list4 {cs : List Value} (h : cs.length = 4) : cs = (cs.drop 0).take 1 ++ (cs.drop 1).take 1 ++ (cs.drop 2).take 1 ++ (cs.drop 3).take 1 := by
  match cs, h with
  | [a, b, c, d], _ => rfl
theorem act_open {H : Type} {enc : TypeId × Value → H} {w : World} {base : Nat} {held : Bool} (cs : List Value) (fuel : Nat) (y : DataW H × List MemPlace) (hl : cs.length = 4) (h : DataW.trod enc Try.prog w base (fun _ => true) held fuel 30 cs = some y) :
    ∃ a : AK, AKok w a ∧ cs = ac a := by
  obtain ⟨xs, m, _, _, _, hlen, hf⟩ := DataW.trod_struct Try.underlying30 h
  have c1 : Try.prog.cellsOf 3 = 1 := by kernel_rfl
  have c2 : Try.prog.cellsOf 5 = 1 := by kernel_rfl
  have c3 : Try.prog.cellsOf 23 = 1 := by kernel_rfl
  match xs, hlen with
  | [y0, y1, y2, y3], _ =>
    have h0 : DataW.trod enc Try.prog w base (fun _ => true) held m 3 ((cs.drop 0).take 1) = some y0 := by have q := hf 0 ⟨ "Do", 3, 0, false, "", "", 0⟩ rfl; simp only [c1] at q; exact q
    have h1 : DataW.trod enc Try.prog w base (fun _ => true) held m 3 ((cs.drop 1).take 1) = some y1 := by have q := hf 1 ⟨ "At", 3, 1, false, "", "", 8⟩ rfl; simp only [c1] at q; exact q
    have h2 : DataW.trod enc Try.prog w base (fun _ => true) held m 5 ((cs.drop 2).take 1) = some y2 := by have q := hf 2 ⟨ "B", 5, 2, false, "", "", 16⟩ rfl; simp only [c2] at q; exact q
    have h3 : DataW.trod enc Try.prog w base (fun _ => true) held m 23 ((cs.drop 3).take 1) = some y3 := by have q := hf 3 ⟨ "Kept", 23, 3, false, "", "", 24⟩ rfl; simp only [c3] at q; exact q
    obtain ⟨d, hd, _⟩ := DataW.trod_int Try.underlying3 h0
    obtain ⟨q, hq, _, hqw⟩ := DataW.trod_int Try.underlying3 h1
    obtain ⟨b, hb, _⟩ := DataW.trod_int Try.underlying5 h2
    rw [hb] at h2
    have hb2 := trod_u8 Try.underlying5 h2
    obtain ⟨la, cap, ks, Rl, hk, hk1, hk2, _, hR, hI⟩ := trod_bools Try.underlying23 Try.underlying4 (by kernel_rfl) h3
    have hq2 : -9223372036854775808 ≤ q ∧ q ≤ 9223372036854775807 := by
      simp [Lit.wf, IntKind.min, IntKind.max, IntKind.signed, IntKind.bits] at hqw
      omega
    refine ⟨⟨d, q, toB (.int .u8 b), la, cap, ks, Rl⟩, ⟨hq2, Nat.le_trans hk1 hk2, hR, hI⟩, ?_⟩
    have h9 := list4 hl
    rw [hd, hq, hb, hk] at h9
    unfold ac
    rw [← hb2]
    exact h9

theorem diskPlaysWalk (q : Int) (la : Option Addr) (cap : Nat) (sc : List AK) (Rl : List (Nat × Obj)) (w : World) (hI : InS Rl la (sc.length * 4) (fun j => (sc.flatMap ac).getD j undef)) (hA : ∀ a ∈ sc, AKok w a) (hRl : Has w Rl) (hsc : sc.length ≤ maxLen) :
    Calls Try.prog 5 #[.int .i64 q, .slice la sc.length cap] w fun e w' => e = .returned (.bool true) ∧ Ext [] w w' := by
  by_cases h : 64 ≤ q ∧ q ≤ 4096
  · obtain ⟨n, rfl⟩ : ∃ n : Nat, q = (n : Int) := ⟨q.toNat, by omega⟩
    exact diskPlaysIn n la cap sc Rl w (by omega) hI hA hRl hsc
  · exact diskPlaysOut q la cap sc w (by omega)
end Go.Proofs.Ytnoipbbcpiaemaa
