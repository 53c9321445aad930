/- script: steps as arguments, opened. -/
import Derived.Test.YtoopekjbikcebaaDoorOpen4
import Derived.Test.YtoopekjbikcebaaDoorScL
namespace Go.Proofs.YtoopekjbikcebaaDoor
open K
set_option linter.unusedVariables false

open Go.ChangeShapes Go.WideShapes
theorem list6 {cs : List Value} (h : cs.length = 6) : cs = (cs.drop 0).take 1 ++ (cs.drop 1).take 1 ++ (cs.drop 2).take 1 ++ (cs.drop 3).take 1 ++ (cs.drop 4).take 1 ++ (cs.drop 5).take 1 := by
  match cs, h with
  | [a, b, c, d, e, f], _ => rfl
theorem wf_i64 (n : Int) (h : (Lit.int .i64 n).wf = true) : -9223372036854775808 ≤ n ∧ n ≤ 9223372036854775807 := by
  simp [Lit.wf, IntKind.min, IntKind.max, IntKind.signed, IntKind.bits] at h
  omega
theorem nat_u32 {n : Int} (h : (Lit.int .u32 n).wf = true) : ∃ k : Nat, n = (k : Int) ∧ k ≤ 4294967295 := by
  have h9 := wf_u32 n h
  exact ⟨n.toNat, by omega, by omega⟩
theorem step_open {H : Type} {enc : TypeId × Value → H} {w : World} {base : Nat} {held : Bool} (cs : List Value) (fuel : Nat) (y : DataW H × List MemPlace) (hl : cs.length = 6) (h : DataW.trod enc Tryd.prog w base (fun _ => true) held fuel 26 cs = some y) :
    ∃ a : Stp, Kok a ∧ cs = stL a := by
  obtain ⟨xs, m, _, _, _, hlen, hf⟩ := DataW.trod_struct Tryd.underlying26 h
  have c1 : Tryd.prog.cellsOf 3 = 1 := by kernel_rfl
  have c2 : Tryd.prog.cellsOf 24 = 1 := by kernel_rfl
  match xs, hlen with
  | [y0, y1, y2, y3, y4, y5], _ =>
    have h0 : DataW.trod enc Tryd.prog w base (fun _ => true) held m 3 ((cs.drop 0).take 1) = some y0 := by have q := hf 0 ⟨ "Kind", 3, 0, false, "", "", 0⟩ rfl; simp only [c1] at q; exact q
    have h1 : DataW.trod enc Tryd.prog w base (fun _ => true) held m 24 ((cs.drop 1).take 1) = some y1 := by have q := hf 1 ⟨ "ID", 24, 1, false, "", "", 8⟩ rfl; simp only [c2] at q; exact q
    have h2 : DataW.trod enc Tryd.prog w base (fun _ => true) held m 24 ((cs.drop 2).take 1) = some y2 := by have q := hf 2 ⟨ "A", 24, 2, false, "", "", 12⟩ rfl; simp only [c2] at q; exact q
    have h3 : DataW.trod enc Tryd.prog w base (fun _ => true) held m 24 ((cs.drop 3).take 1) = some y3 := by have q := hf 3 ⟨ "B", 24, 3, false, "", "", 16⟩ rfl; simp only [c2] at q; exact q
    have h4 : DataW.trod enc Tryd.prog w base (fun _ => true) held m 24 ((cs.drop 4).take 1) = some y4 := by have q := hf 4 ⟨ "PA", 24, 4, false, "", "", 20⟩ rfl; simp only [c2] at q; exact q
    have h5 : DataW.trod enc Tryd.prog w base (fun _ => true) held m 24 ((cs.drop 5).take 1) = some y5 := by have q := hf 5 ⟨ "PB", 24, 5, false, "", "", 24⟩ rfl; simp only [c2] at q; exact q
    obtain ⟨k, hk, _, wk⟩ := DataW.trod_int Tryd.underlying3 h0
    obtain ⟨n1, hn1, _, wn1⟩ := DataW.trod_int Tryd.underlying24 h1
    obtain ⟨m1, rfl, hm1⟩ := nat_u32 wn1
    obtain ⟨n2, hn2, _, wn2⟩ := DataW.trod_int Tryd.underlying24 h2
    obtain ⟨m2, rfl, hm2⟩ := nat_u32 wn2
    obtain ⟨n3, hn3, _, wn3⟩ := DataW.trod_int Tryd.underlying24 h3
    obtain ⟨m3, rfl, hm3⟩ := nat_u32 wn3
    obtain ⟨n4, hn4, _, wn4⟩ := DataW.trod_int Tryd.underlying24 h4
    obtain ⟨m4, rfl, hm4⟩ := nat_u32 wn4
    obtain ⟨n5, hn5, _, wn5⟩ := DataW.trod_int Tryd.underlying24 h5
    obtain ⟨m5, rfl, hm5⟩ := nat_u32 wn5
    refine ⟨(k, m1, m2, m3, m4, m5), ⟨wf_i64 k wk, hm1, hm2, hm3, hm4, hm5⟩, ?_⟩
    have h9 := list6 hl
    rw [hk, hn1, hn2, hn3, hn4, hn5] at h9
    exact h9

end Go.Proofs.YtoopekjbikcebaaDoor
