import Derived.Test.YtpaekplhcjleaaaGreatDoorIS
import Derived.Shelf.SlIterI.Nil
namespace Go.Proofs.YtpaekplhcjleaaaGreatDoor
namespace I
open Go.RowKit Go.Maps Go.Sort Go.Shelf Go.WideElems
set_option linter.unusedVariables false

/-- How a map's values read: not at all. -/
def noRead (_ : Value) : Option (DataW Unit × List MemPlace) := some (.nil, [])

theorem keyOf_int {P : Program} {k : TypeId} {x : Int} (hk : P.underlying k = some (.int .i64)) (hw : (Lit.int .i64 x).wf = true) : keyOf P k (encZ x) = some (.int .i64 x) := by
  simp [keyOf, hk, mapKey, hw]

theorem keys_perm {P : Program} {k : TypeId} (hk : P.underlying k = some (.int .i64)) : ∀ {es : List MapEntry} {ks : List Int}, es.map (·.key) = ks.map encZ → (∀ x ∈ ks, (Lit.int .i64 x).wf = true) →
    (∀ x ∈ es, ∃ y, rd P k noRead x = some y) ∧ (es.map (rg P k noRead)).map (fun p => intOf p.1) = ks
  | [], [], _, _ => ⟨fun x hx => (by cases hx), rfl⟩
  | [], _ :: _, h, _ => by simp at h
  | _ :: _, [], h, _ => by simp at h
  | e :: es, x :: ks, h, hw => by
    simp only [List.map_cons, List.cons.injEq] at h
    obtain ⟨h1, h2⟩ := h
    obtain ⟨g1, g2⟩ := keys_perm hk h2 (fun y hy => hw y (List.mem_cons_of_mem _ hy))
    have hrd : rd P k noRead e = some (.int .i64 x, .nil) := by
      have := keyOf_int hk (hw x (List.mem_cons_self ..))
      simp [rd, h1, this, noRead]
    refine ⟨fun y hy => ?_, ?_⟩
    · rcases List.mem_cons.1 hy with rfl | hy
      · exact ⟨_, hrd⟩
      · exact g1 y hy
    · simp only [List.map_cons, g2, rg_of hrd]
      rfl

theorem sortedKeys_of {P : Program} {ρk ρs : Ren} (Lk : SlLaysZI.n7 P ρk) (Ls : SlLaysZI.n6 P ρs) (hsort : ∀ m, AnyZI.SortsIn P ρs Fence.wide m) (e9 : ∀ args w, (callFunc (ρs.f 9) args).run P w = .ok (.enter (ρs.f 9) args) w) :
    SortedKeys P (ρs.f 6) (ρk.f 10) (ρs.t 26) := by
  have eg : ∀ args w, (callFunc (ρk.f 10) args).run P w = .ok (.enter (ρk.f 10) args) w := Lk.f10.enters rfl
  refine ⟨?_, fun Bm b es clock ks w hb hst hk hw hle hcell => ?_, fun Bm w hcell => ?_⟩
  · obtain ⟨nm, h1, h2⟩ := Ls.f6
    exact ⟨_, _, h2, h1, rfl⟩
  · obtain ⟨g1, g2⟩ := keys_perm (P := P) Lk.t26 hk hw
    have hlen : es.size = ks.length := by
      have := congrArg List.length hk
      simpa using this
    have hp : (intKeys (DataW.map ((es.toList.map (rg P (ρk.t 26) noRead)).foldr DataW.insert []))).Perm ks := by
      have := ((WideShapes.sorted_perm (es.toList.map (rg P (ρk.t 26) noRead))).map (fun p => intOf p.1))
      rw [g2] at this
      exact this
    have hsz : Maps.size (DataW.map ((es.toList.map (rg P (ρk.t 26) noRead)).foldr DataW.insert [])) = ks.length := by
      have := (WideShapes.sorted_perm (es.toList.map (rg P (ρk.t 26) noRead))).length_eq
      simpa [Maps.size, hlen] using this
    have hown : w.ownsMap P (ρk.t 26) noRead b es.size (DataW.map ((es.toList.map (rg P (ρk.t 26) noRead)).foldr DataW.insert [])) :=
      ⟨es, clock, hb, ⟨by rw [hlen]; exact Nat.le_trans hle (by decide), hst, g1⟩, Nat.le_refl _, rfl⟩
    have hBm : Bm < w.heap.size := by
      cases hx : w.heap[Bm]? with
      | none => simp [World.cell?, hx] at hcell
      | some o => exact (Array.getElem?_eq_some_iff.1 hx).1
    have hseq := AnyZI.keys_gives (ρ := ρk) { Lk with } Fence.wide 2 trivial rfl (by omega) Bm b es.size _ w hBm hcell hown
    have cS := AnyZI.sorted_in Ls Fence.wide 5 trivial trivial trivial trivial rfl (by omega) (hsort _) e9 (ρk.f 10) #[.pointer (some ⟨Bm, 0, none⟩)] trivial eg _ _ (by rw [hsz]; exact Nat.le_trans hle (by decide)) (by rw [hsz]; omega) w hseq
    refine ((callsIn_wide (n := 5)).1 cS).mono ?_
    rintro e w' ⟨v, ss, rfl, hS, hrow, hnil, hB⟩
    have hpp : ss.Perm ks := hS.trans hp
    rw [hpp.length_eq, mergeSort_of_perm_i hpp] at hrow
    refine ⟨v, rfl, hrow, ?_, hB⟩
    rw [hnil]
    constructor
    · intro h; subst h; exact List.Perm.nil_eq hpp |>.symm
    · intro h; subst h; exact List.Perm.eq_nil hpp
  · have hBm : Bm < w.heap.size := by
      cases hx : w.heap[Bm]? with
      | none => simp [World.cell?, hx] at hcell
      | some o => exact (Array.getElem?_eq_some_iff.1 hx).1
    have hseq := AnyZI.keys_gives_nil (ρ := ρk) { Lk with } Fence.wide 2 trivial rfl Bm w hBm hcell
    have cS := AnyZI.sorted_in Ls Fence.wide 5 trivial trivial trivial trivial rfl (by omega) (hsort _) e9 (ρk.f 10) #[.pointer (some ⟨Bm, 0, none⟩)] trivial eg _ 0 (Nat.zero_le _) (by omega) w hseq
    refine ((callsIn_wide (n := 5)).1 cS).mono ?_
    rintro e w' ⟨v, ss, rfl, rfl, hrow, hnil, hB⟩
    obtain rfl := hnil.2 rfl
    exact ⟨rfl, hB⟩

end I
end Go.Proofs.YtpaekplhcjleaaaGreatDoor
