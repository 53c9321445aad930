/- The chapter's example of wire. -/
import Derived.Test.YtmkefcjphdaoiaaWire4
namespace Go.Proofs.Ytmkefcjphdaoiaa
open K
set_option linter.unusedVariables false

theorem baToList (s : ByteArray) : s.toList = s.data.toList := Go.ByteArray.toList_eq s
def exS : List UInt8 := [0, 0, 1, 2, 0, 0, 0, 1, 97]
theorem flat_le {α : Type} {f : α → List UInt8} {m : Nat} : ∀ (l : List α) (d : α), (∀ j, j < l.length → (f (l.getD j d)).length ≤ m) → (flat f l).length ≤ l.length * m
  | [], _, _ => by simp [flat]
  | x :: l, d, h => by
    have h0 := h 0 (by simp)
    have ih := flat_le l d (fun j hj => by have := h (j + 1) (by simpa using hj); simpa using this)
    simp only [List.getD_cons_zero] at h0
    rw [show flat f (x :: l) = f x ++ flat f l by simp [flat], List.length_append, List.length_cons, Nat.add_mul]
    omega
theorem flat_take_le {α : Type} {f : α → List UInt8} {l : List α} {m : Nat} (d : α) {i : Nat} (hi : i ≤ l.length) (h : ∀ j, j < i → (f (l.getD j d)).length ≤ m) : (flat f (l.take i)).length ≤ i * m := by
  have := flat_le (f := f) (m := m) (l.take i) d (fun j hj => by
    rw [List.length_take] at hj
    have e : (l.take i).getD j d = l.getD j d := by simp [List.getD_eq_getElem?_getD, show j < i by omega]
    rw [e]; exact h j (by omega))
  rw [List.length_take, Nat.min_eq_left hi] at this
  exact this
theorem tx_beS (a : List UInt8) (n k : Nat) : tx a ++ beS n k = tx (a ++ be n k) := tx_app a (be n k)
theorem tx_ba (a : List UInt8) (s : ByteArray) : tx a ++ s = tx (a ++ s.data.toList) := by rw [ba_tx s]; exact tx_app a s.data.toList
theorem be_one (q : Nat) : be q 1 = [UInt8.ofNat q] := by simp [be]
theorem cat_flat (ls : List ByteArray) : cat ls = flat (fun s => s.data.toList) ls := rfl
theorem eqTx {a b : ByteArray} (h : a = b) : (a.toList == b.toList) = true := by rw [h]; exact beq_self_eq_true _

set_option maxRecDepth 100000 in
theorem awake03 (w : World) :
    Calls Try.prog 20 #[] w fun e w' => e = .returned (.bool true) ∧ Ext [] w w' := by
  refine enter (vs := []) [] [] [] Try.func20 rfl (by kernel_rfl) (HP.start w) ?_
  refine Cfg.reg rfl [] [] (Γ' := []) (nd := (fun _ => [])) (fun _ => by kernel_rfl) trivial ?_
  refine Cfg.begL rfl ?_
  refine CfgL.pure 1 [(0, false, some (.agg #[.string ByteArray.empty]))] none (Γ' := [(3, [], .agg #[.string ByteArray.empty])]) (nd := (fun S => [(∀ w1, S w1 → (Instr.build 64 #[]).run Try.prog w1 = .ok (.agg #[.string ByteArray.empty]) w1)])) (by kernel_rfl) (fun _ => by kernel_rfl) ⟨(fun _ _ => by kernel_rfl), trivial⟩ ?_
  refine CfgL.eff (o := _) rfl (by kernel_rfl) (by kernel_rfl) (Eff.buildSlice (e := 46) (cells := #[.int .u32 258]) (parts := #[(0, .int .u32 258)]) rfl (by kernel_rfl) (fun _ => by kernel_rfl)) ?_
  rintro x1 ⟨hx1, nx1⟩
  refine CfgL.eff (o := _) rfl (by kernel_rfl) (by kernel_rfl) (Eff.callA (vs := [.agg #[.string ByteArray.empty], .slice (some ⟨x1, 0, none⟩) 1 1]) (.agg #[.string (tx [0, 0, 1, 2])]) rfl Try.func35 rfl rfl (by kernel_rfl) (fun w1 h => wFour ByteArray.empty (some ⟨x1, 0, none⟩) 1 [258] [(x1, .cells #[.int .u32 ((258 : Nat) : Int)] 46 (0, 0))] w1 (inS_num x1 46 (0, 0) .u32 258) (h.has (fun e he => List.mem_of_getElem? (i := 0) (by rw [List.mem_singleton.1 he]; rfl))) (by simp [maxLen]) (by decide) (one_get (by decide) (by decide)))) ?_
  rintro ⟨⟩ -
  refine CfgL.eff (o := _) rfl (by kernel_rfl) (by kernel_rfl) (Eff.buildSlice (e := 9) (cells := #[.string ⟨#[97]⟩]) (parts := #[(0, .string ⟨#[97]⟩)]) rfl (by kernel_rfl) (fun _ => by kernel_rfl)) ?_
  rintro x2 ⟨hx2, nx2⟩
  refine CfgL.eff (o := _) rfl (by kernel_rfl) (by kernel_rfl) (Eff.callA (vs := [.agg #[.string (tx [0, 0, 1, 2])], .slice (some ⟨x2, 0, none⟩) 1 1]) (.agg #[.string (tx exS)]) rfl Try.func37 rfl rfl (by kernel_rfl) (fun w1 h => wText (tx [0, 0, 1, 2]) (some ⟨x2, 0, none⟩) 1 [⟨#[97]⟩] [(x2, .cells #[.string ⟨#[97]⟩] 9 (0, 0))] w1 (inS_text x2 9 (0, 0) ⟨#[97]⟩) (h.has (fun e he => List.mem_of_getElem? (i := 0) (by rw [List.mem_singleton.1 he]; rfl))) (by simp [maxLen]) (by decide))) ?_
  rintro ⟨⟩ -
  refine CfgL.eff (o := _) rfl (by kernel_rfl) (by kernel_rfl) (Eff.callA (vs := [.agg #[.string (tx exS)]]) (.string (tx exS)) rfl Try.func40 rfl rfl (by kernel_rfl) (fun w1 _ => wString (tx exS) w1)) ?_
  rintro ⟨⟩ -
  refine CfgL.pure 1 [] (some [1]) (Γ' := [(1, [], .string (tx exS))]) (nd := (fun _ => [])) (by kernel_rfl) (fun _ => by kernel_rfl) trivial ?_
  refine CfgL.done rfl ?_
  refine Cfg.begL rfl ?_
  refine CfgL.pure 1 [] none (Γ' := [(9, [], .string (tx exS)), (1, [], .string (tx exS))]) (nd := (fun _ => [])) (by kernel_rfl) (fun _ => by kernel_rfl) trivial ?_
  refine CfgL.eff (o := _) rfl (by kernel_rfl) (by kernel_rfl) (Eff.callN (vs := [.string (tx exS)]) (fun b : Nat => .pointer (some ⟨b, 0, none⟩)) (fun b => b) (fun _ => .cells (inC ⟨0, exS⟩) 103 (0, 0)) (fun _ => True) rfl Try.func45 rfl rfl (by kernel_rfl) (fun w1 _ => wOf exS w1)) ?_
  rintro b ⟨-, hb, nb⟩
  refine CfgL.pure 1 [] (some [1, 2]) (Γ' := [(2, [], .pointer (some ⟨b, 0, none⟩)), (1, [], .string (tx exS))]) (nd := (fun _ => [])) (by kernel_rfl) (fun _ => by kernel_rfl) trivial ?_
  refine CfgL.done rfl ?_
  refine Cfg.begL rfl ?_
  refine CfgL.pure 7 [] none (Γ' := [(17, [], .bool (((tx exS).toList == (⟨#[0, 0, 1, 2, 0, 0, 0, 1, 97]⟩ : ByteArray).toList) && true)), (16, [], .bool (((tx exS).toList == (⟨#[0, 0, 1, 2, 0, 0, 0, 1, 97]⟩ : ByteArray).toList) && true)), (15, [(13, true)], .bool true), (14, [(13, true)], .pointer (some ⟨b, 0, none⟩)), (13, [], .bool ((tx exS).toList == (⟨#[0, 0, 1, 2, 0, 0, 0, 1, 97]⟩ : ByteArray).toList)), (12, [], .bool ((tx exS).toList == (⟨#[0, 0, 1, 2, 0, 0, 0, 1, 97]⟩ : ByteArray).toList)), (11, [], .string (tx exS)), (2, [], .pointer (some ⟨b, 0, none⟩)), (1, [], .string (tx exS))]) (nd := (fun _ => [])) (by kernel_rfl) (fun _ => by kernel_rfl) trivial ?_
  refine CfgL.known 17 (b := (((tx exS).toList == (⟨#[0, 0, 1, 2, 0, 0, 0, 1, 97]⟩ : ByteArray).toList) && true)) (by kernel_rfl) true (by first | rfl | decide | (simp only [baToList]; rfl)) ?_
  refine CfgL.pure 1 [(1, false, none)] none (Γ' := [(18, [], .pointer (some ⟨b, 0, none⟩)), (17, [], .bool true), (16, [], .bool (((tx exS).toList == (⟨#[0, 0, 1, 2, 0, 0, 0, 1, 97]⟩ : ByteArray).toList) && true)), (15, [(13, true)], .bool true), (14, [(13, true)], .pointer (some ⟨b, 0, none⟩)), (13, [], .bool ((tx exS).toList == (⟨#[0, 0, 1, 2, 0, 0, 0, 1, 97]⟩ : ByteArray).toList)), (12, [], .bool ((tx exS).toList == (⟨#[0, 0, 1, 2, 0, 0, 0, 1, 97]⟩ : ByteArray).toList)), (11, [], .string (tx exS)), (2, [], .pointer (some ⟨b, 0, none⟩)), (1, [], .string (tx exS))]) (nd := (fun _ => [((.bool true : Value) = .bool true)])) (by kernel_rfl) (fun _ => by kernel_rfl) ⟨rfl, trivial⟩ ?_
  refine CfgL.eff (o := _) rfl (by kernel_rfl) (by kernel_rfl) (Eff.callM (vs := [.pointer (some ⟨b, 0, none⟩)]) (.int .u32 ((fourF (⟨0, exS⟩)).1 : Int)) 0 (b := b) (ob := .cells (inC (⟨0, exS⟩)) 103 (0, 0)) (.cells (inC ((fourF (⟨0, exS⟩)).2)) 103 (0, 0)) rfl Try.func22 rfl rfl (by kernel_rfl) (by kernel_rfl) (fun w1 h => wTFour b (⟨0, exS⟩) w1 (h.own (b, _) (List.mem_of_getElem? (i := 0) rfl)))) ?_
  rintro ⟨⟩ -
  refine CfgL.pure 3 [(1, false, none)] none (Γ' := [(22, [], .bool (((fourF (⟨0, exS⟩)).1 : Int) == (258 : Int))), (21, [], .bool (((fourF (⟨0, exS⟩)).1 : Int) == (258 : Int))), (20, [], .bool (((fourF (⟨0, exS⟩)).1 : Int) == (258 : Int))), (19, [], .int .u32 ((fourF (⟨0, exS⟩)).1 : Int)), (18, [], .pointer (some ⟨b, 0, none⟩)), (17, [], .bool true), (16, [], .bool (((tx exS).toList == (⟨#[0, 0, 1, 2, 0, 0, 0, 1, 97]⟩ : ByteArray).toList) && true)), (15, [(13, true)], .bool true), (14, [(13, true)], .pointer (some ⟨b, 0, none⟩)), (13, [], .bool ((tx exS).toList == (⟨#[0, 0, 1, 2, 0, 0, 0, 1, 97]⟩ : ByteArray).toList)), (12, [], .bool ((tx exS).toList == (⟨#[0, 0, 1, 2, 0, 0, 0, 1, 97]⟩ : ByteArray).toList)), (11, [], .string (tx exS)), (2, [], .pointer (some ⟨b, 0, none⟩)), (1, [], .string (tx exS))]) (nd := (fun _ => [((.bool true : Value) = .bool true)])) (by kernel_rfl) (fun _ => by kernel_rfl) ⟨rfl, trivial⟩ ?_
  refine CfgL.known 22 (b := (((fourF (⟨0, exS⟩)).1 : Int) == (258 : Int))) (by kernel_rfl) true (by first | rfl | decide | (simp only [baToList]; rfl)) ?_
  refine CfgL.pure 1 [(1, false, none)] none (Γ' := [(23, [], .pointer (some ⟨b, 0, none⟩)), (22, [], .bool true), (21, [], .bool (((fourF (⟨0, exS⟩)).1 : Int) == (258 : Int))), (20, [], .bool (((fourF (⟨0, exS⟩)).1 : Int) == (258 : Int))), (19, [], .int .u32 ((fourF (⟨0, exS⟩)).1 : Int)), (18, [], .pointer (some ⟨b, 0, none⟩)), (17, [], .bool true), (16, [], .bool (((tx exS).toList == (⟨#[0, 0, 1, 2, 0, 0, 0, 1, 97]⟩ : ByteArray).toList) && true)), (15, [(13, true)], .bool true), (14, [(13, true)], .pointer (some ⟨b, 0, none⟩)), (13, [], .bool ((tx exS).toList == (⟨#[0, 0, 1, 2, 0, 0, 0, 1, 97]⟩ : ByteArray).toList)), (12, [], .bool ((tx exS).toList == (⟨#[0, 0, 1, 2, 0, 0, 0, 1, 97]⟩ : ByteArray).toList)), (11, [], .string (tx exS)), (2, [], .pointer (some ⟨b, 0, none⟩)), (1, [], .string (tx exS))]) (nd := (fun _ => [((.bool true : Value) = .bool true)])) (by kernel_rfl) (fun _ => by kernel_rfl) ⟨rfl, trivial⟩ ?_
  refine CfgL.eff (o := _) rfl (by kernel_rfl) (by kernel_rfl) (Eff.callM (vs := [.pointer (some ⟨b, 0, none⟩), .int .i64 1]) (.string (tx (textF ((fourF (⟨0, exS⟩)).2) (1 : Int)).1)) 0 (b := b) (ob := .cells (inC ((fourF (⟨0, exS⟩)).2)) 103 (0, 0)) (.cells (inC ((textF ((fourF (⟨0, exS⟩)).2) (1 : Int)).2)) 103 (0, 0)) rfl Try.func24 rfl rfl (by kernel_rfl) (by kernel_rfl) (fun w1 h => wTText b ((fourF (⟨0, exS⟩)).2) (1 : Int) w1 (h.own (b, _) (List.mem_of_getElem? (i := 0) rfl)) (by omega))) ?_
  rintro ⟨⟩ -
  refine CfgL.pure 3 [(1, false, none)] none (Γ' := [(27, [], .bool ((tx (textF ((fourF (⟨0, exS⟩)).2) (1 : Int)).1).toList == (⟨#[97]⟩ : ByteArray).toList)), (26, [], .bool ((tx (textF ((fourF (⟨0, exS⟩)).2) (1 : Int)).1).toList == (⟨#[97]⟩ : ByteArray).toList)), (25, [], .bool ((tx (textF ((fourF (⟨0, exS⟩)).2) (1 : Int)).1).toList == (⟨#[97]⟩ : ByteArray).toList)), (24, [], .string (tx (textF ((fourF (⟨0, exS⟩)).2) (1 : Int)).1)), (23, [], .pointer (some ⟨b, 0, none⟩)), (22, [], .bool true), (21, [], .bool (((fourF (⟨0, exS⟩)).1 : Int) == (258 : Int))), (20, [], .bool (((fourF (⟨0, exS⟩)).1 : Int) == (258 : Int))), (19, [], .int .u32 ((fourF (⟨0, exS⟩)).1 : Int)), (18, [], .pointer (some ⟨b, 0, none⟩)), (17, [], .bool true), (16, [], .bool (((tx exS).toList == (⟨#[0, 0, 1, 2, 0, 0, 0, 1, 97]⟩ : ByteArray).toList) && true)), (15, [(13, true)], .bool true), (14, [(13, true)], .pointer (some ⟨b, 0, none⟩)), (13, [], .bool ((tx exS).toList == (⟨#[0, 0, 1, 2, 0, 0, 0, 1, 97]⟩ : ByteArray).toList)), (12, [], .bool ((tx exS).toList == (⟨#[0, 0, 1, 2, 0, 0, 0, 1, 97]⟩ : ByteArray).toList)), (11, [], .string (tx exS)), (2, [], .pointer (some ⟨b, 0, none⟩)), (1, [], .string (tx exS))]) (nd := (fun _ => [((.bool true : Value) = .bool true)])) (by kernel_rfl) (fun _ => by kernel_rfl) ⟨rfl, trivial⟩ ?_
  refine CfgL.known 27 (b := ((tx (textF ((fourF (⟨0, exS⟩)).2) (1 : Int)).1).toList == (⟨#[97]⟩ : ByteArray).toList)) (by kernel_rfl) true (by first | rfl | decide | (simp only [baToList]; rfl)) ?_
  refine CfgL.pure 1 [(1, false, none)] none (Γ' := [(28, [], .pointer (some ⟨b, 0, none⟩)), (27, [], .bool true), (26, [], .bool ((tx (textF ((fourF (⟨0, exS⟩)).2) (1 : Int)).1).toList == (⟨#[97]⟩ : ByteArray).toList)), (25, [], .bool ((tx (textF ((fourF (⟨0, exS⟩)).2) (1 : Int)).1).toList == (⟨#[97]⟩ : ByteArray).toList)), (24, [], .string (tx (textF ((fourF (⟨0, exS⟩)).2) (1 : Int)).1)), (23, [], .pointer (some ⟨b, 0, none⟩)), (22, [], .bool true), (21, [], .bool (((fourF (⟨0, exS⟩)).1 : Int) == (258 : Int))), (20, [], .bool (((fourF (⟨0, exS⟩)).1 : Int) == (258 : Int))), (19, [], .int .u32 ((fourF (⟨0, exS⟩)).1 : Int)), (18, [], .pointer (some ⟨b, 0, none⟩)), (17, [], .bool true), (16, [], .bool (((tx exS).toList == (⟨#[0, 0, 1, 2, 0, 0, 0, 1, 97]⟩ : ByteArray).toList) && true)), (15, [(13, true)], .bool true), (14, [(13, true)], .pointer (some ⟨b, 0, none⟩)), (13, [], .bool ((tx exS).toList == (⟨#[0, 0, 1, 2, 0, 0, 0, 1, 97]⟩ : ByteArray).toList)), (12, [], .bool ((tx exS).toList == (⟨#[0, 0, 1, 2, 0, 0, 0, 1, 97]⟩ : ByteArray).toList)), (11, [], .string (tx exS)), (2, [], .pointer (some ⟨b, 0, none⟩)), (1, [], .string (tx exS))]) (nd := (fun _ => [((.bool true : Value) = .bool true)])) (by kernel_rfl) (fun _ => by kernel_rfl) ⟨rfl, trivial⟩ ?_
  refine CfgL.eff (o := _) rfl (by kernel_rfl) (by kernel_rfl) (Eff.callA (vs := [.pointer (some ⟨b, 0, none⟩)]) (.int .i64 (endF ((textF ((fourF (⟨0, exS⟩)).2) (1 : Int)).2))) rfl Try.func30 rfl rfl (by kernel_rfl) (fun w1 h => wEnd b ((textF ((fourF (⟨0, exS⟩)).2) (1 : Int)).2) w1 (h.own (b, _) (List.mem_of_getElem? (i := 0) rfl)))) ?_
  rintro ⟨⟩ -
  refine CfgL.pure 3 [(1, false, none)] (some [0]) (Γ' := [(0, [], .bool ((endF ((textF ((fourF (⟨0, exS⟩)).2) (1 : Int)).2)) == (0 : Int)))]) (nd := (fun _ => [((.bool true : Value) = .bool true)])) (by kernel_rfl) (fun _ => by kernel_rfl) ⟨rfl, trivial⟩ ?_
  refine CfgL.done rfl ?_
  refine Cfg.ret rfl (rs := [.tmp 0]) rfl [.bool ((endF ((textF ((fourF (⟨0, exS⟩)).2) (1 : Int)).2)) == (0 : Int))] ⟨by kernel_rfl, trivial⟩ (fun w1 hp => ?_)
  exact ⟨rfl, hp.ext⟩

end Go.Proofs.Ytmkefcjphdaoiaa
