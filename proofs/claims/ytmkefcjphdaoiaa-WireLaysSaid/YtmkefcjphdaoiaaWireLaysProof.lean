/- The statement WireLaysSaid, for every input: the law returns true and every argument reads as it did. Out of the walk wireLaysWalk. -/
import Derived.Test.YtmkefcjphdaoiaaWireL
import Derived.Test.YtmkefcjphdaoiaaOpen2
import Derived.Test.YtmkefcjphdaoiaaRows
import Derived.Test.YtmkefcjphdaoiaaOpen
import Derived.WalkKit
import Derived.ProofKit
import Derived.OpenShut
import Derived.ShutString
import Derived.ChangeOld
import Derived.Below
import Derived.SizedLaws
namespace Go.Proofs.Ytmkefcjphdaoiaa.wireLays
open Go.ChangeShapes Go.WideShapes Go.ChangeAt Go.RowKit K
open Go.ChangeMaps (open_string shut_string)
set_option linter.unusedVariables false

theorem own : ownKnob Try.prog.godebug = none := by kernel_rfl
theorem laidOut : laidOutB Try.prog = true := by kernel_rfl

set_option maxRecDepth 100000 in
theorem lifted (os : Os) (started : os.Started) (H : Type) (enc : TypeId × Value → H) :
    ReturnsInHanded {} Try.checked os 7 .any (Rows.wireLaysSpec.pre6 enc Try.prog Try.f7 Rows.wireLaysRow.domain false) (Rows.wireLaysSpec.post enc Try.prog Try.f7 false true false false) := by
  refine returnsInHanded_of_change_sized (C := Try.checked) own started (by kernel_rfl) Try.func7
    (ChangeSpec.witness6 (enc := enc) (C := Try.checked) false ⟨#[], #[.int .u8 0, .slice none 0 0, .slice none 0 0, .slice none 0 0, .slice none 0 0], []⟩ 8 (by kernel_rfl) (by kernel_rfl) (by kernel_rfl) (by kernel_rfl)) ?_
  intro W base args ds gs before hval0 hW hcnd hsize _
  have hval : ∀ (j : Nat) t v, Try.f7.params[j]? = some t → args[j]? = some v → Value.okWide Try.prog W .any base t v := hval0
  have hW' := hW
  obtain ⟨p, q, hA0, hV, rfl, hfz, hnd⟩ := hW
  have hA : DataW.TrodAll enc Try.prog W 0 (fun _ => true) true Try.f7.params.toList args.toList ds p := hA0
  rw [Try.params7] at hA hval
  obtain ⟨v0, vs0, d0, ds0, p0, q0, hargs, rfl, rfl, h0, r0⟩ := trodAll_cons hA
  obtain ⟨v1, vs1, d1, ds1, p1, q1, rfl, rfl, rfl, h1, r1⟩ := trodAll_cons r0
  obtain ⟨v2, vs2, d2, ds2, p2, q2, rfl, rfl, rfl, h2, r2⟩ := trodAll_cons r1
  obtain ⟨v3, vs3, d3, ds3, p3, q3, rfl, rfl, rfl, h3, r3⟩ := trodAll_cons r2
  obtain ⟨v4, vs4, d4, ds4, p4, q4, rfl, rfl, rfl, h4, r4⟩ := trodAll_cons r3
  obtain ⟨rfl, rfl, rfl⟩ := trodAll_nil r4
  obtain rfl : args = #[v0, v1, v2, v3, v4] := by cases args; simp_all
  obtain ⟨rfl, rfl⟩ := trodVars_none hV
  have k0 := h0
  have lt0 : ∀ x ∈ p0, x.block < W.heap.size := by obtain ⟨m, hm⟩ := k0; exact DataW.trod_lt m _ _ _ hm
  have k1 := h1
  have lt1 : ∀ x ∈ p1, x.block < W.heap.size := by obtain ⟨m, hm⟩ := k1; exact DataW.trod_lt m _ _ _ hm
  have k2 := h2
  have lt2 : ∀ x ∈ p2, x.block < W.heap.size := by obtain ⟨m, hm⟩ := k2; exact DataW.trod_lt m _ _ _ hm
  have k3 := h3
  have lt3 : ∀ x ∈ p3, x.block < W.heap.size := by obtain ⟨m, hm⟩ := k3; exact DataW.trod_lt m _ _ _ hm
  have k4 := h4
  have lt4 : ∀ x ∈ p4, x.block < W.heap.size := by obtain ⟨m, hm⟩ := k4; exact DataW.trod_lt m _ _ _ hm
  have z1 := slice_sized hsize (j := 1) (m := 4) rfl rfl Try.underlying56 (by kernel_rfl) (by decide) (hval 1 56 v1 rfl rfl) h1
  have z2 := slice_sized hsize (j := 2) (m := 8) rfl rfl Try.underlying57 (by kernel_rfl) (by decide) (hval 2 57 v2 rfl rfl) h2
  have z3 := slice_sized hsize (j := 3) (m := 16) rfl rfl Try.underlying58 (by kernel_rfl) (by decide) (hval 3 58 v3 rfl rfl) h3
  have z4 := slice_sized hsize (j := 4) (m := 32) rfl rfl Try.underlying59 (by kernel_rfl) (by decide) (hval 4 59 v4 rfl rfl) h4
  obtain ⟨a0, rfl, rfl, rfl, w0⟩ := open_int Try.underlying5 (hval 0 5 v0 rfl rfl) h0
  obtain ⟨la1, kc1, ns, R1, rfl, b1, b2, b3, hx1, hR1, hI1⟩ := open_nats Try.underlying56 Try.underlying46 wf_u32 (by decide) (by kernel_rfl) (hval 1 56 v1 rfl rfl) h1
  obtain ⟨la2, kc2, ms, R2, rfl, d1, d2, d3, hx2, hR2, hI2⟩ := open_nats Try.underlying57 Try.underlying48 wf_u64 (by decide) (by kernel_rfl) (hval 2 57 v2 rfl rfl) h2
  obtain ⟨la3, kc3, ls, R3, rfl, e1, e2, e3, hx3, hR3, hI3⟩ := open_texts Try.underlying58 Try.underlying9 (by kernel_rfl) (hval 3 58 v3 rfl rfl) h3
  obtain ⟨la4, kc4, ds, R4, rfl, f1, f2, f3, hx4, hR4, hI4⟩ := open_digs Try.underlying59 Try.underlying52 Try.underlying5 (by kernel_rfl) (by kernel_rfl) (by omega) (hval 4 59 v4 rfl rfl) h4
  obtain ⟨q, rfl⟩ : ∃ q : Nat, a0 = (q : Int) := ⟨a0.toNat, by have := wf_u8 w0; omega⟩
  have hq := wf_u8 w0
  have z1 := z1 _ _ _ rfl
  have z2 := z2 _ _ _ rfl
  have z3 := z3 _ _ _ rfl
  have z4 := z4 _ _ _ rfl
  clear hA0 hval0
  refine (wireLaysWalk q la1 la2 la3 la4 kc1 kc2 kc3 kc4 ns ms ls ds (R1 ++ (R2 ++ (R3 ++ R4))) W (by omega) (hI1.more (fun _ hx => List.mem_append_left _ hx) (fun _ _ => rfl)) (hI2.more (fun _ hx => List.mem_append_right _ (List.mem_append_left _ hx)) (fun _ _ => rfl)) (hI3.more (fun _ hx => List.mem_append_right _ (List.mem_append_right _ (List.mem_append_left _ hx))) (fun _ _ => rfl)) (hI4.more (fun _ hx => List.mem_append_right _ (List.mem_append_right _ (List.mem_append_right _ hx))) (fun _ _ => rfl)) (hR1.app (hR2.app (hR3.app hR4))) (by omega) (by omega) (by omega) (by omega) hx1 hx2 hx4 (by omega)).mono fun e W' ⟨he, hx⟩ => ?_
  subst he
  have bel := hx.below
  exact ⟨_, rfl, _, _, _, [], _, [], hW', trodAll_mk1 (shut_bool Try.underlying4 _), (trodAll_cons_mk (Below.trod laidOut (by kernel_rfl) (of_decide_eq_true (by kernel_rfl)) k0 bel lt0) (trodAll_cons_mk (Below.trod laidOut (by kernel_rfl) (of_decide_eq_true (by kernel_rfl)) k1 bel lt1) (trodAll_cons_mk (Below.trod laidOut (by kernel_rfl) (of_decide_eq_true (by kernel_rfl)) k2 bel lt2) (trodAll_cons_mk (Below.trod laidOut (by kernel_rfl) (of_decide_eq_true (by kernel_rfl)) k3 bel lt3) (trodAll_cons_mk (Below.trod laidOut (by kernel_rfl) (of_decide_eq_true (by kernel_rfl)) k4 bel lt4) trodAll_mk0))))), rfl, bel.frame _, (fun h => by cases h)⟩

theorem over : Rows.wireLaysRow.holds Try.pinned (OpenSpec.ofChange Rows.wireLaysSpec) :=
  OpenClaim.holds_of_wide 7 Try.f7 rfl rfl rfl rfl rfl rfl rfl ⟨rfl, rfl, rfl, rfl, rfl⟩ rfl rfl rfl rfl rfl (by kernel_rfl) Try.func7 (by kernel_rfl)
    (of_decide_eq_true (by kernel_rfl)) (by unfold Func.isWrapper; first | (rw [if_pos (by decide +kernel)]; kernel_rfl) | (rw [if_neg (by decide +kernel)]; exact ⟨rfl, rfl⟩))
    (fun os started H enc _ => lifted os started H enc)

theorem proved : Rows.WireLaysSaid := over
#print axioms proved
end Go.Proofs.Ytmkefcjphdaoiaa.wireLays
