/- space: the contracts, of spaces of whatever size. -/
import Derived.Test.YtmkefcjphdaoiaaSpC
namespace Go.Proofs.Ytmkefcjphdaoiaa
open K
set_option linter.unusedVariables false

/-- How a space's row lies: not at all where there are no sectors. -/
def Good (o : K.Own) (fr : List Bool) : Prop := (o = none ∧ fr = []) ∨ ∃ x, o = some x ∧ 0 < fr.length
def newF (f t : Int) : List Bool := if t ≤ f then [] else List.replicate (min (t - f).toNat 4096) true
theorem newF_len (f t : Int) : (newF f t).length ≤ 4096 := by unfold newF; split <;> simp; omega
theorem loopF_len (to : Bool) (k : Nat) : ∀ (c n : Nat) (nx : List Bool), (loopF to k c n nx).2.length = nx.length
  | 0, _, _ => rfl
  | c + 1, n, nx => by
    rw [loopF]
    split
    · rfl
    · split
      · rfl
      · rw [loopF_len to k c]; simp
theorem turnF_len (f : Int) (nn : Nat) (to : Bool) : ∀ (l : List (Int × Int)) (nx : List Bool), (turnF f nn to l nx).2.length = nx.length
  | [], _ => rfl
  | r :: l, nx => by
    rw [turnF]
    split
    · rfl
    · split
      · split
        · rw [turnF_len f nn to l, loopF_len]
        · rw [loopF_len]
      · rfl
theorem turnR_len (f : Int) (to : Bool) (l : List (Int × Int)) (fr : List Bool) : (turnR f to l fr).length = fr.length := by
  unfold turnR; split
  · exact turnF_len ..
  · rfl
theorem takeF_len (f : Int) (fr : List Bool) (n : Int) : (takeF f fr n).2.2.length = fr.length := by
  unfold takeF; split
  · rfl
  · split
    · rfl
    · exact turnR_len ..
theorem Good.same {o : K.Own} {fr fr2 : List Bool} {x : Nat × Nat × List Value} (h : 0 < fr.length) (hl : fr2.length = fr.length) : Good (some x) fr2 := .inr ⟨x, rfl, by omega⟩
theorem nil_len {fr : List Bool} (h : fr.length = 0) : fr = [] := List.eq_nil_of_length_eq_zero h

theorem newU (f t : Int) (w : World) (hf : I64 f) (ht : I64 t) : Calls Try.prog 11 #[.int .i64 f, .int .i64 t] w fun e w' => ∃ x : Nat × K.Own, Good x.2 (newF f t) ∧ e = .returned (.pointer (some ⟨x.1, 0, none⟩)) ∧ ∃ R1, HP w [] R1 (spO x.1 f x.2 (newF f t)) w' := by
  unfold newF
  by_cases h : t ≤ f
  · rw [if_pos h]
    refine (newE f t w h).mono ?_
    rintro e w' ⟨s, he, R1, hp⟩
    exact ⟨(s, none), .inl ⟨rfl, rfl⟩, he, R1, hp⟩
  · rw [if_neg h]
    refine (newC f t _ w hf ht (by omega) rfl).mono ?_
    rintro e w' ⟨x, he, R1, hp⟩
    exact ⟨(x.1, some (x.2, _, [])), .inr ⟨_, rfl, by rw [List.length_replicate]; omega⟩, he, R1, hp⟩

theorem takeU (s : Nat) (f : Int) (o : K.Own) (fr : List Bool) (n : Int) (w : World) (hf : -9223372036854775808 ≤ f ∧ f + fr.length ≤ 9223372036854775807) (hm : fr.length ≤ 4096) (hg : Good o fr) (hn : I64 n) (hA : Has w (spO s f o fr)) (hd : ((spO s f o fr).map (·.1)).Nodup) :
    Calls Try.prog 14 #[.pointer (some ⟨s, 0, none⟩), .int .i64 n] w fun e w' => ∃ o2 : K.Own, Good o2 (takeF f fr n).2.2 ∧ e = .returned (.tuple #[.int .i64 (takeF f fr n).1, .int .i64 ((takeF f fr n).2.1 : Int)]) ∧ ∃ R1, HP w ((spO s f o fr).map (·.1)) R1 (spO s f o2 (takeF f fr n).2.2) w' := by
  rcases hg with ⟨rfl, rfl⟩ | ⟨⟨b, cp, jk⟩, rfl, h0⟩
  · refine (takeE s f n w hn hA).mono ?_
    rintro e w' ⟨he, R1, hp⟩
    have h2 : takeF f [] n = (0, if n < 1 then 2 else 14, []) := by unfold takeF; rw [runsAt_end (by simp)]; split <;> rfl
    rw [h2]
    refine ⟨none, .inl ⟨rfl, rfl⟩, ?_, R1, hp⟩
    rw [he]; split <;> rfl
  · refine (takeC s b cp jk f fr n w hf hm h0 hn hA hd).mono ?_
    rintro e w' ⟨x, he, R1, hp⟩
    exact ⟨some x, .inr ⟨x, rfl, by rw [takeF_len]; exact h0⟩, he, R1, hp⟩

theorem freeU (s : Nat) (f : Int) (o : K.Own) (fr : List Bool) (w : World) (hf : -9223372036854775808 ≤ f ∧ f + fr.length ≤ 9223372036854775807) (hm : fr.length ≤ 4096) (hg : Good o fr) (hR : Has w (spO s f o fr)) :
    Calls Try.prog 17 #[.pointer (some ⟨s, 0, none⟩)] w fun e w' => e = .returned (.int .i64 (suml (runsAt fr 0) : Int)) ∧ Ext [] w w' := by
  rcases hg with ⟨rfl, rfl⟩ | ⟨⟨b, cp, jk⟩, rfl, h0⟩
  · rw [runsAt_end (by simp)]; exact freeE s f w hR
  · exact freeC s b cp jk f fr w hf hm hR

theorem isU (s : Nat) (f q : Int) (o : K.Own) (fr : List Bool) (w : World) (hf : I64 f) (hq : I64 q) (hm : fr.length ≤ 4096) (hg : Good o fr) (hR : Has w (spO s f o fr)) :
    Calls Try.prog 15 #[.pointer (some ⟨s, 0, none⟩), .int .i64 q] w fun e w' => e = .returned (.bool (inP f fr.length q && fr.getD (q - f).toNat false)) ∧ Ext [] w w' := by
  rcases hg with ⟨rfl, rfl⟩ | ⟨⟨b, cp, jk⟩, rfl, h0⟩
  · rw [inE]; exact isE s f q w hf hq hR
  · exact isC s b cp jk f q fr w hf hq hm hR

theorem copyU (s : Nat) (f : Int) (o : K.Own) (fr : List Bool) (w : World) (hm : fr.length ≤ 4096) (hg : Good o fr) (hR : Has w (spO s f o fr)) :
    Calls Try.prog 16 #[.pointer (some ⟨s, 0, none⟩)] w fun e w' => ∃ x : Nat × K.Own, Good x.2 fr ∧ e = .returned (.pointer (some ⟨x.1, 0, none⟩)) ∧ ∃ R1, HP w [] R1 (spO x.1 f x.2 fr) w' := by
  rcases hg with ⟨rfl, rfl⟩ | ⟨⟨b, cp, jk⟩, rfl, h0⟩
  · refine (copyE s f w hR).mono ?_
    rintro e w' ⟨s2, he, R1, hp⟩
    exact ⟨(s2, none), .inl ⟨rfl, rfl⟩, he, R1, hp⟩
  · refine (copyC s b cp jk f fr w h0 hm hR).mono ?_
    rintro e w' ⟨x, he, R1, hp⟩
    exact ⟨(x.1, some x.2), .inr ⟨_, rfl, h0⟩, he, R1, hp⟩

theorem turn_nil (f : Int) (to : Bool) (l : List (Int × Int)) : turnR f to l [] = [] := nil_len (by rw [turnR_len]; rfl)

theorem claimU (s : Nat) (f : Int) (o : K.Own) (fr : List Bool) (la : Option Addr) (cap : Nat) (l : List (Int × Int)) (Rl : List (Nat × Obj)) (w : World) (hf : I64 f) (hm : fr.length ≤ 4096) (hg : Good o fr) (hI : InS Rl la (2 * l.length) (rcell l)) (hl : l.length ≤ maxLen) (h1 : ∀ i, I64 (ra l i)) (h2 : ∀ i, I64 (rl l i))
    (hA : Has w (spO s f o fr)) (hd : ((spO s f o fr).map (·.1)).Nodup) (hRl : Has w Rl) (hnr : ∀ e ∈ Rl, e.1 ∉ (spO s f o fr).map (·.1)) :
    Calls Try.prog 12 #[.pointer (some ⟨s, 0, none⟩), .slice la l.length cap] w fun e w' => ∃ o2 : K.Own, Good o2 (turnR f false l fr) ∧ e = .returned (.int .i64 ((turnF f fr.length false l fr).1 : Int)) ∧ ∃ R1, HP w ((spO s f o fr).map (·.1)) R1 (spO s f o2 (turnR f false l fr)) w' := by
  rcases hg with ⟨rfl, rfl⟩ | ⟨⟨b, cp, jk⟩, rfl, h0⟩
  · refine (claimE s f la cap l Rl w hf hI hl h1 h2 hA hRl hnr).mono ?_
    rintro e w' ⟨he, R1, hp⟩
    rw [turn_nil]
    exact ⟨none, .inl ⟨rfl, rfl⟩, he, R1, hp⟩
  · refine (claimC s b cp jk f fr la cap l Rl w hf hm h0 hI hl h1 h2 hA hd hRl hnr).mono ?_
    rintro e w' ⟨x, he, R1, hp⟩
    exact ⟨some x, .inr ⟨x, rfl, by rw [turnR_len]; exact h0⟩, he, R1, hp⟩

theorem giveU (s : Nat) (f : Int) (o : K.Own) (fr : List Bool) (la : Option Addr) (cap : Nat) (l : List (Int × Int)) (Rl : List (Nat × Obj)) (w : World) (hf : I64 f) (hm : fr.length ≤ 4096) (hg : Good o fr) (hI : InS Rl la (2 * l.length) (rcell l)) (hl : l.length ≤ maxLen) (h1 : ∀ i, I64 (ra l i)) (h2 : ∀ i, I64 (rl l i))
    (hA : Has w (spO s f o fr)) (hd : ((spO s f o fr).map (·.1)).Nodup) (hRl : Has w Rl) (hnr : ∀ e ∈ Rl, e.1 ∉ (spO s f o fr).map (·.1)) :
    Calls Try.prog 18 #[.pointer (some ⟨s, 0, none⟩), .slice la l.length cap] w fun e w' => ∃ o2 : K.Own, Good o2 (turnR f true l fr) ∧ e = .returned (.int .i64 ((turnF f fr.length true l fr).1 : Int)) ∧ ∃ R1, HP w ((spO s f o fr).map (·.1)) R1 (spO s f o2 (turnR f true l fr)) w' := by
  rcases hg with ⟨rfl, rfl⟩ | ⟨⟨b, cp, jk⟩, rfl, h0⟩
  · refine (giveE s f la cap l Rl w hf hI hl h1 h2 hA hRl hnr).mono ?_
    rintro e w' ⟨he, R1, hp⟩
    rw [turn_nil]
    exact ⟨none, .inl ⟨rfl, rfl⟩, he, R1, hp⟩
  · refine (giveC s b cp jk f fr la cap l Rl w hf hm h0 hI hl h1 h2 hA hd hRl hnr).mono ?_
    rintro e w' ⟨x, he, R1, hp⟩
    exact ⟨some x, .inr ⟨x, rfl, by rw [turnR_len]; exact h0⟩, he, R1, hp⟩

theorem runsU (tb s : Nat) (f : Int) (o : K.Own) (fr : List Bool) (hf : -9223372036854775808 ≤ f ∧ f + fr.length ≤ 9223372036854775807) (hm : fr.length ≤ 4096) (hg : Good o fr) :
    IterSpec Try.prog 54 #[.pointer (some ⟨tb, 0, none⟩)] ((tb, Obj.cells #[.pointer (some ⟨s, 0, none⟩)] 24 (0, 0)) :: spO s f o fr) (runsAt fr 0) (fun (x : Nat × Nat) => Value.agg #[.int .i64 (f + (x.1 : Int)), .int .i64 (x.2 : Int)]) := by
  rcases hg with ⟨rfl, rfl⟩ | ⟨⟨b, cp, jk⟩, rfl, h0⟩
  · rw [runsAt_end (by simp)]; exact runsE tb s f
  · exact runsIt tb s b cp jk f fr hf hm
end Go.Proofs.Ytmkefcjphdaoiaa
