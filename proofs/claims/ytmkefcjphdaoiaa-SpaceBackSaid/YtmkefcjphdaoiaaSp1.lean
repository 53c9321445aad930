/- space: the copy of a row of bools. -/
import Derived.Test.YtmkefcjphdaoiaaChecked
import Derived.Test.YtmkefcjphdaoiaaK18
namespace Go.Proofs.Ytmkefcjphdaoiaa
open K
set_option linter.unusedVariables false

def rb (fr : List Bool) : List Value := fr.map Value.bool
theorem rb_len (fr : List Bool) : (rb fr).length = fr.length := by simp [rb]
theorem rb_get {fr : List Bool} {i : Nat} (h : i < fr.length) : (rb fr)[i]? = some (.bool (fr.getD i false)) := by simp [rb, List.getElem?_eq_getElem h]
theorem rb_one (fr : List Bool) : ∀ v ∈ rb fr, one v = true := by
  intro v hv
  obtain ⟨b, _, rfl⟩ := List.mem_map.1 hv
  rfl
theorem own_zero (b : Nat) : OwnOk (some (b, 0, [])) 1 0 [] := ⟨rfl, (fun h => by cases h), (fun p h => by cases h; exact ⟨rfl, Nat.le_refl _⟩)⟩
theorem rb_src {w0 w : World} {M : List Nat} {R O : List (Nat × Obj)} (h : HP w0 M R O w) {b : Nat} {fr : List Bool} {junk : List Value} {t : TypeId} (hm : (b, Obj.cells (rb fr ++ junk).toArray t (0, 0)) ∈ R) {j : Nat} {v : Value} (hv : (rb fr)[j]? = some v) : w.cell? ⟨b, 0 + j, none⟩ = some v := by
  rw [cell_cells (h.ro _ hm), Nat.zero_add]
  obtain ⟨hj, hx⟩ := List.getElem?_eq_some_iff.1 hv
  simp only [List.getElem?_toArray]
  rw [List.getElem?_append_left hj, hv]
set_option maxRecDepth 100000 in
theorem cloneN (w : World) :
    Calls Try.prog 56 #[.slice none 0 0] w fun e w' => e = .returned (.slice none 0 0) ∧ Ext [] w w' := by
  refine enter (vs := [.slice none 0 0]) [] [] [] Try.func56 rfl (by kernel_rfl) (HP.start w) ?_
  refine Cfg.reg rfl [0] [] (Γ' := [(0, [], .slice none 0 0)]) (nd := (fun _ => [])) (fun _ => by kernel_rfl) trivial ?_
  refine Cfg.reg rfl [0, 4] [] (Γ' := [(4, [], .bool true), (0, [], .slice none 0 0)]) (nd := (fun _ => [])) (fun _ => by kernel_rfl) trivial ?_
  refine Cfg.condT rfl (b := true) (by kernel_rfl) rfl ?_
  refine Cfg.reg rfl [2] [] (Γ' := [(2, [], .slice none 0 0)]) (nd := (fun _ => [])) (fun _ => by kernel_rfl) trivial ?_
  refine Cfg.ret rfl (rs := [.tmp 2]) rfl [.slice none 0 0] ⟨by kernel_rfl, trivial⟩ (fun w1 hp => ?_)
  exact ⟨rfl, hp.ext⟩

set_option maxRecDepth 100000 in
theorem cloneB (b cap : Nat) (fr : List Bool) (junk : List Value) (w : World) (hn : 0 < fr.length) (hm : fr.length ≤ 4096) (hR : Has w [(b, .cells (rb fr ++ junk).toArray 4 (0, 0))]) :
    Calls Try.prog 56 #[.slice (some ⟨b, 0, none⟩) fr.length cap] w fun e w' => ∃ o : K.Own, OwnOk o 1 fr.length (rb fr) ∧ e = .returned (.slice o.a fr.length o.c) ∧ Has w' (o.o 4 (rb fr)) ∧ (∀ x ∈ o.o 4 (rb fr), w.heap.size ≤ x.1) ∧ Ext [] w w' := by
  refine enter (vs := [.slice (some ⟨b, 0, none⟩) fr.length cap]) [] [(b, .cells ((rb fr ++ junk).toArray) 4 (0, 0))] [] Try.func56 rfl (by kernel_rfl) (HP.ofHas hR) ?_
  refine Cfg.reg rfl [0] [] (Γ' := [(0, [], .slice (some ⟨b, 0, none⟩) fr.length cap)]) (nd := (fun _ => [])) (fun _ => by kernel_rfl) trivial ?_
  refine Cfg.reg rfl [0, 4] [] (Γ' := [(4, [], .bool false), (0, [], .slice (some ⟨b, 0, none⟩) fr.length cap)]) (nd := (fun _ => [])) (fun _ => by kernel_rfl) trivial ?_
  refine Cfg.condF rfl (b := false) (by kernel_rfl) rfl ?_
  refine Cfg.begL rfl ?_
  refine CfgL.eff (o := _) rfl (by kernel_rfl) (by kernel_rfl) (Eff.buildSlice (e := 4) (cells := #[]) (parts := #[]) rfl (by kernel_rfl) (fun _ => by kernel_rfl)) ?_
  rintro z ⟨hz, nz⟩
  refine CfgL.pure 1 [] none (Γ' := [(6, [], .slice (some ⟨b, 0, none⟩) fr.length cap), (5, [], .slice (some ⟨z, 0, none⟩) 0 0), (4, [], .bool false), (0, [], .slice (some ⟨b, 0, none⟩) fr.length cap)]) (nd := (fun _ => [])) (by kernel_rfl) (fun _ => by kernel_rfl) trivial ?_
  refine CfgL.eff (o := _) rfl (by kernel_rfl) (by kernel_rfl) (Eff.appendF rfl 1 1 Try.underlying92 (by kernel_rfl) (z := .bool false) (by kernel_rfl) rfl (some (z, 0, [])) (n := 0) (xs := []) (own_zero z) (by kernel_rfl) (b2 := b) (off2 := 0) (m := fr.length) (c2 := cap) (by kernel_rfl) (rb fr) (by rw [rb_len, Nat.mul_one]) (rb_one fr) [] [] rfl (fun w1 h j v hj => rb_src h (List.mem_cons_self ..) hj) (by omega) (by omega)) ?_
  rintro o ko
  refine CfgL.pure 1 [] (some [2]) (Γ' := [(2, [], .slice (Own.a o) ((0 + fr.length)) (Own.c o))]) (nd := (fun _ => [])) (by kernel_rfl) (fun _ => by kernel_rfl) trivial ?_
  refine CfgL.done rfl ?_
  refine Cfg.ret rfl (rs := [.tmp 2]) rfl [.slice (Own.a o) ((0 + fr.length)) (Own.c o)] ⟨by kernel_rfl, trivial⟩ (fun w1 hp => ?_)
  have ko2 := ko
  rw [Nat.zero_add] at ko2
  exact ⟨o, ko2, by rw [Nat.zero_add]; rfl, fun x hx => hp.own x (by simpa using hx), fun x hx => (hp.mine x (by simpa using hx)).resolve_right (fun h => by cases h), hp.ext⟩

end Go.Proofs.Ytmkefcjphdaoiaa
