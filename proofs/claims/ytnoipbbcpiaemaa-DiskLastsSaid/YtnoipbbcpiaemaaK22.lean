/- slices.Sorted(maps.Keys(m)), keys of kind int: what it gives. -/
import Derived.Test.YtnoipbbcpiaemaaK21
import Derived.Lib.SlKeysI
import Derived.Below
import Derived.Shelf.SlIterI.Nil
namespace Go.Proofs.Ytnoipbbcpiaemaa
namespace K
open Go.RowKit Go.Maps Go.Sort Go.Shelf Go.WideElems
set_option linter.unusedVariables false

/-- What the two functions come to. -/
structure SortedKeys (P : Program) (fS fK ety : Nat) : Prop where
  has : ∃ fn c, P.funcs[fS]? = some fn ∧ (fn.name == "runtime.NumGoroutine") = false ∧ fn.body = some c
  some : ∀ (Bm b : Nat) (es : Array MapEntry) (clock : Nat) (ks : List Int) (w : World), w.heap[b]? = .some (.map es clock) → Go.MapKept.Stamped es clock → es.toList.map (·.key) = ks.map encZ →
    (∀ x ∈ ks, (Lit.int .i64 x).wf = true) → ks.length ≤ 1000000 → w.cell? ⟨Bm, 0, none⟩ = .some (.map (.some b)) →
    Calls P fS #[.func (.func fK) #[] #[.pointer (.some ⟨Bm, 0, none⟩)]] w fun e w' => ∃ v, e = .returned v ∧ w'.ownsRow w.heap.size ety 1 v ks.length ((ks.mergeSort leI).map encZ) ∧ (v = .slice none 0 0 ↔ ks = []) ∧ Go.RowKit.Below w.heap.size w w'
  none : ∀ (Bm : Nat) (w : World), w.cell? ⟨Bm, 0, none⟩ = .some (.map none) →
    Calls P fS #[.func (.func fK) #[] #[.pointer (.some ⟨Bm, 0, none⟩)]] w fun e w' => e = .returned (.slice none 0 0) ∧ Go.RowKit.Below w.heap.size w w'

/-- How a map's values read: not at all. -/
def noRead (_ : Value) : Option (DataW Unit × List MemPlace) := some (.nil, [])

theorem keyOf_int {P : Program} {k : TypeId} {x : Int} (hk : P.underlying k = some (.int .i64)) (hw : (Lit.int .i64 x).wf = true) : keyOf P k (encZ x) = some (.int .i64 x) := by
  simp [keyOf, hk, mapKey, hw]

theorem keys_perm {P : Program} {k : TypeId} (hk : P.underlying k = some (.int .i64)) : ∀ {es : List MapEntry} {ks : List Int}, es.map (·.key) = ks.map encZ → (∀ x ∈ ks, (Lit.int .i64 x).wf = true) →
    (∀ x ∈ es, ∃ y, rd P k noRead x = some y) ∧ (es.map (rg P k noRead)).map (fun p => intOf p.1) = ks
  | [], [], _, _ => ⟨fun x hx => (by cases hx), rfl⟩
  | [], _ :: _, h, _ => by simp at h
  | _ :: _, [], h, _ => by simp at h
  | e :: es, x :: ks, h, hw => by
    simp only [List.map_cons, List.cons.injEq] at h
    obtain ⟨h1, h2⟩ := h
    obtain ⟨g1, g2⟩ := keys_perm hk h2 (fun y hy => hw y (List.mem_cons_of_mem _ hy))
    have hrd : rd P k noRead e = some (.int .i64 x, .nil) := by
      have := keyOf_int hk (hw x (List.mem_cons_self ..))
      simp [rd, h1, this, noRead]
    refine ⟨fun y hy => ?_, ?_⟩
    · rcases List.mem_cons.1 hy with rfl | hy
      · exact ⟨_, hrd⟩
      · exact g1 y hy
    · simp only [List.map_cons, g2, rg_of hrd]
      rfl

theorem sortedKeys_of {P : Program} {ρk ρs : Ren} (Lk : SlLaysZI.n7 P ρk) (Ls : SlLaysZI.n6 P ρs) (hsort : ∀ m, AnyZI.SortsIn P ρs Fence.wide m) (e9 : ∀ args w, (callFunc (ρs.f 9) args).run P w = .ok (.enter (ρs.f 9) args) w) :
    SortedKeys P (ρs.f 6) (ρk.f 10) (ρs.t 26) := by
  have eg : ∀ args w, (callFunc (ρk.f 10) args).run P w = .ok (.enter (ρk.f 10) args) w := Lk.f10.enters rfl
  refine ⟨?_, fun Bm b es clock ks w hb hst hk hw hle hcell => ?_, fun Bm w hcell => ?_⟩
  · obtain ⟨nm, h1, h2⟩ := Ls.f6
    exact ⟨_, _, h2, h1, rfl⟩
  · obtain ⟨g1, g2⟩ := keys_perm (P := P) Lk.t26 hk hw
    have hlen : es.size = ks.length := by
      have := congrArg List.length hk
      simpa using this
    have hp : (intKeys (DataW.map ((es.toList.map (rg P (ρk.t 26) noRead)).foldr DataW.insert []))).Perm ks := by
      have := ((WideShapes.sorted_perm (es.toList.map (rg P (ρk.t 26) noRead))).map (fun p => intOf p.1))
      rw [g2] at this
      exact this
    have hsz : Maps.size (DataW.map ((es.toList.map (rg P (ρk.t 26) noRead)).foldr DataW.insert [])) = ks.length := by
      have := (WideShapes.sorted_perm (es.toList.map (rg P (ρk.t 26) noRead))).length_eq
      simpa [Maps.size, hlen] using this
    have hown : w.ownsMap P (ρk.t 26) noRead b es.size (DataW.map ((es.toList.map (rg P (ρk.t 26) noRead)).foldr DataW.insert [])) :=
      ⟨es, clock, hb, ⟨by rw [hlen]; exact Nat.le_trans hle (by decide), hst, g1⟩, Nat.le_refl _, rfl⟩
    have hBm : Bm < w.heap.size := by
      cases hx : w.heap[Bm]? with
      | none => simp [World.cell?, hx] at hcell
      | some o => exact (Array.getElem?_eq_some_iff.1 hx).1
    have hseq := AnyZI.keys_gives (ρ := ρk) { Lk with } Fence.wide 2 trivial rfl (by omega) Bm b es.size _ w hBm hcell hown
    have cS := AnyZI.sorted_in Ls Fence.wide 5 trivial trivial trivial trivial rfl (by omega) (hsort _) e9 (ρk.f 10) #[.pointer (some ⟨Bm, 0, none⟩)] trivial eg _ _ (by rw [hsz]; exact Nat.le_trans hle (by decide)) (by rw [hsz]; omega) w hseq
    refine ((callsIn_wide (n := 5)).1 cS).mono ?_
    rintro e w' ⟨v, ss, rfl, hS, hrow, hnil, hB⟩
    have hpp : ss.Perm ks := hS.trans hp
    rw [hpp.length_eq, mergeSort_of_perm_i hpp] at hrow
    refine ⟨v, rfl, hrow, ?_, hB⟩
    rw [hnil]
    constructor
    · intro h; subst h; exact List.Perm.nil_eq hpp |>.symm
    · intro h; subst h; exact List.Perm.eq_nil hpp
  · have hBm : Bm < w.heap.size := by
      cases hx : w.heap[Bm]? with
      | none => simp [World.cell?, hx] at hcell
      | some o => exact (Array.getElem?_eq_some_iff.1 hx).1
    have hseq := AnyZI.keys_gives_nil (ρ := ρk) { Lk with } Fence.wide 2 trivial rfl Bm w hBm hcell
    have cS := AnyZI.sorted_in Ls Fence.wide 5 trivial trivial trivial trivial rfl (by omega) (hsort _) e9 (ρk.f 10) #[.pointer (some ⟨Bm, 0, none⟩)] trivial eg _ 0 (Nat.zero_le _) (by omega) w hseq
    refine ((callsIn_wide (n := 5)).1 cS).mono ?_
    rintro e w' ⟨v, ss, rfl, rfl, hrow, hnil, hB⟩
    obtain rfl := hnil.2 rfl
    exact ⟨rfl, hB⟩


theorem in64 {x : Int} (h : -9223372036854775808 ≤ x ∧ x ≤ 9223372036854775807) : (Lit.int .i64 x).wf = true := by
  simp only [Lit.wf]
  simp
  exact h

/-- The keys, in order. -/
def srt (l : List Int) : List Int := l.mergeSort leI
theorem srt_perm (l : List Int) : (srt l).Perm l := List.mergeSort_perm l leI
theorem srt_len (l : List Int) : (srt l).length = l.length := (srt_perm l).length_eq
theorem srt_sorted (l : List Int) : (srt l).Pairwise (fun a b => a ≤ b) := by
  have h := List.pairwise_mergeSort (le := leI) (fun a b c h1 h2 => by simp only [leI, decide_eq_true_eq] at *; omega) (fun a b => by simp only [leI, Bool.or_eq_true, decide_eq_true_eq]; omega) l
  exact h.imp (fun h => by simpa [leI] using h)
theorem sorted_gives {P : Program} {fS fK ety : Nat} (S : SortedKeys P fS fK ety) (bm r : Nat) (es : Array MapEntry) (ck : Nat) (W : List (Int × Value)) (w : World) (h : MapOk es ck W) (hb : w.heap[r]? = .some (.map es ck)) (hk : ∀ p ∈ W, -9223372036854775808 ≤ p.1 ∧ p.1 ≤ 9223372036854775807) (hl : W.length ≤ 1000000)
    (hc : w.cell? ⟨bm, 0, none⟩ = .some (.map (.some r))) :
    Calls P fS #[.func (.func fK) #[] #[.pointer (.some ⟨bm, 0, none⟩)]] w fun e w' => ∃ o : Own, OwnOk o 1 W.length ((srt (W.map (·.1))).map encZ) ∧ e = .returned (.slice o.a W.length o.c) ∧ Has w' (o.o ety ((srt (W.map (·.1))).map encZ)) ∧ (∀ x ∈ o.o ety ((srt (W.map (·.1))).map encZ), w.heap.size ≤ x.1) ∧ Ext [] w w' := by
  have hkeys : es.toList.map (·.key) = (W.map (·.1)).map encZ := by
    have := congrArg (List.map (·.1)) h.rel
    rw [List.map_map, List.map_map] at this
    rw [List.map_map]
    exact this
  refine (S.some bm r es ck (W.map (·.1)) w hb h.st hkeys (fun x hx => by obtain ⟨p, hp, rfl⟩ := List.mem_map.1 hx; exact in64 (hk p hp)) (by rw [List.length_map]; exact hl) hc).mono ?_
  rintro e w' ⟨v, rfl, hrow, _, hB⟩
  rw [List.length_map] at hrow
  have hx : Ext [] w w' := ⟨hB.os, hB.tape, hB.output, hB.size, fun k hk _ => hB.block k hk⟩
  rcases hrow.2 with ⟨rfl, h0⟩ | ⟨g, cap, cur, rfl, hbase, hg, r1, _, r3, r4⟩
  · have hW : W = [] := List.eq_nil_of_length_eq_zero h0
    subst hW
    have e0 : srt (([] : List (Int × Value)).map (·.1)) = [] := List.eq_nil_of_length_eq_zero (by rw [srt_len]; rfl)
    rw [e0]
    exact ⟨.none, OwnOk.none 1, rfl, (fun e he => by cases he), (fun e he => by cases he), hx⟩
  · have hcur : ((srt (W.map (·.1))).map encZ ++ cur.toList.drop W.length).toArray = cur := by
      apply Array.ext'
      show (srt (W.map (·.1))).map encZ ++ cur.toList.drop W.length = cur.toList
      have r4' : cur.toList.take W.length = (srt (W.map (·.1))).map encZ := by rw [Nat.mul_one] at r4; exact r4
      rw [← r4', List.take_append_drop]
    refine ⟨.some (g, cap, cur.toList.drop W.length), ⟨by rw [List.length_map, srt_len, List.length_map, Nat.mul_one], fun h => (by cases h), fun p hp => ?_⟩, rfl, fun e he => ?_, fun e he => ?_, hx⟩
    · cases hp
      refine ⟨?_, r1⟩
      have r3' : cur.toList.length = cap := by rw [Array.length_toList, r3, Nat.mul_one]
      simp only
      rw [List.length_map, srt_len, List.length_map, List.length_drop, r3']; omega
    · rw [List.mem_singleton.1 he]
      simp only
      rw [hcur]; exact hg
    · rw [List.mem_singleton.1 he]; exact hbase

end K
end Go.Proofs.Ytnoipbbcpiaemaa
