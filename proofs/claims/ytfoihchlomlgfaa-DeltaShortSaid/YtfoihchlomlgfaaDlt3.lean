/- delta: parts taken, rows of them; Apply gives the text of a delta. Conditions: the In is the caller's own; the base is no longer than 10,000,000 bytes. -/
import Derived.Test.YtfoihchlomlgfaaDlt2
namespace Go.Proofs.Ytfoihchlomlgfaa
open K
set_option linter.unusedVariables false

theorem boundF_le (z : IN) {most e : Int} {m : Nat} (h : most ≤ (m : Int)) : (boundF z most e).1 ≤ m := by
  unfold boundF
  by_cases h0 : (fourF z).1 > (if 0 > most then 0 else most).toNat
  · rw [if_pos h0]; exact Nat.zero_le _
  · rw [if_neg h0]
    have : (if 0 > most then 0 else most).toNat ≤ m := by split <;> omega
    omega
theorem rowsF_succ {β : Type} {tk : IN → β × IN} {k : Nat} {z : IN} {acc : List β} (h : ¬ (tk z).2.er ≠ 0) : rowsF tk (k + 1) z acc = rowsF tk k (tk z).2 (acc ++ [(tk z).1]) := if_neg h
theorem rowsF_fail {β : Type} {tk : IN → β × IN} {k : Nat} {z : IN} {acc : List β} (h : (tk z).2.er ≠ 0) : rowsF tk (k + 1) z acc = ([], (tk z).2) := if_pos h
/-- A row that is taken: how many, and each. -/
def rowsT {β : Type} (tk : IN → β × IN) (z : IN) (most : Int) : List β × IN := rowsF tk (boundF z most 6).1 (boundF z most 6).2 []
/-- The first k elements were taken without error. -/
structure RowAt {β : Type} (tk : IN → β × IN) (n : Nat) (z0 : IN) (i : Nat) (z : IN) (acc : List β) : Prop where
  le : i ≤ n
  len : acc.length = i
  rest : rowsF tk (n - i) z acc = rowsF tk n z0 []
theorem RowAt.start {β : Type} (tk : IN → β × IN) (n : Nat) (z0 : IN) : RowAt tk n z0 0 z0 [] := ⟨Nat.zero_le _, rfl, by rw [Nat.sub_zero]⟩
theorem RowAt.next {β : Type} {tk : IN → β × IN} {n i : Nat} {z0 z : IN} {acc : List β} (h : RowAt tk n z0 i z acc) (hi : i < n) (he : (tk z).2.er = 0) : RowAt tk n z0 (i + 1) (tk z).2 (acc ++ [(tk z).1]) :=
  ⟨hi, by rw [List.length_append, h.len]; rfl, by rw [← h.rest, show n - i = (n - (i + 1)) + 1 by omega, rowsF_succ (by omega)]⟩
theorem RowAt.fail {β : Type} {tk : IN → β × IN} {n i : Nat} {z0 z : IN} {acc : List β} (h : RowAt tk n z0 i z acc) (hi : i < n) (he : (tk z).2.er ≠ 0) : rowsF tk n z0 [] = ([], (tk z).2) := by
  rw [← h.rest, show n - i = (n - (i + 1)) + 1 by omega, rowsF_fail he]
theorem RowAt.done {β : Type} {tk : IN → β × IN} {n : Nat} {z0 z : IN} {acc : List β} (h : RowAt tk n z0 n z acc) : rowsF tk n z0 [] = (acc, z) := by
  rw [← h.rest, Nat.sub_self]; rfl
/-- A part that is taken. -/
def takeP (z : IN) : PT × IN :=
  if (byteF z).1 = 0 then (⟨0, (fourF (byteF z).2).1, (fourF (fourF (byteF z).2).2).1, ByteArray.empty⟩, (fourF (fourF (byteF z).2).2).2)
  else if (byteF z).1 = 1 then (⟨1, 0, 0, tx (textF (byteF z).2 32768).1⟩, (textF (byteF z).2 32768).2)
  else (⟨(byteF z).1, 0, 0, ByteArray.empty⟩, failF (byteF z).2 11)
theorem byteF_lt (z : IN) : (byteF z).1 < 256 := Nat.mod_lt _ (by decide)
theorem textF_len (z : IN) (m : Nat) : (textF z (m : Int)).1.length ≤ m := by
  unfold textF
  exact Nat.le_trans (nextF_len _ _) (boundF_le z (Int.le_refl _))
theorem takeP_ok (z : IN) : PtOk 32768 (takeP z).1 := by
  unfold takeP
  have h1 := byteF_lt z
  have h2 := fourF_lt (byteF z).2
  have h3 := fourF_lt (fourF (byteF z).2).2
  split
  · exact ⟨⟨by show 0 < 256; decide, h2, h3⟩, Nat.zero_le _⟩
  · split
    · exact ⟨⟨by show 1 < 256; decide, by show 0 < 4294967296; decide, by show 0 < 4294967296; decide⟩, by show (tx _).size ≤ _; rw [tx_size]; exact textF_len (byteF z).2 32768⟩
    · exact ⟨⟨h1, by show 0 < 4294967296; decide, by show 0 < 4294967296; decide⟩, Nat.zero_le _⟩
theorem rowsF_all {β : Type} {tk : IN → β × IN} {p : β → Prop} (h : ∀ z, p (tk z).1) : ∀ (k : Nat) (z : IN) (acc : List β), (∀ x ∈ acc, p x) → ∀ x ∈ (rowsF tk k z acc).1, p x
  | 0, z, acc, ha => ha
  | k + 1, z, acc, ha => by
    unfold rowsF
    split
    · intro x hx; cases hx
    · exact rowsF_all h k _ _ (fun x hx => by
        rcases List.mem_append.1 hx with hx | hx
        · exact ha x hx
        · rw [List.mem_singleton.1 hx]; exact h z)
theorem rowsF_le {β : Type} {tk : IN → β × IN} : ∀ (k : Nat) (z : IN) (acc : List β), (rowsF tk k z acc).1.length ≤ acc.length + k
  | 0, z, acc => Nat.le_refl _
  | k + 1, z, acc => by
    unfold rowsF
    split
    · exact Nat.zero_le _
    · have := rowsF_le (tk := tk) k (tk z).2 (acc ++ [(tk z).1])
      rw [List.length_append, List.length_singleton] at this; omega
/-- What a delta's bytes say: two lengths, parts, the end. -/
def aZ (l : List UInt8) : IN := (fourF (fourF ⟨0, l⟩).2).2
def aFrom (l : List UInt8) : Nat := (fourF ⟨0, l⟩).1
def aMost (l : List UInt8) : Nat := (fourF (fourF ⟨0, l⟩).2).1
def aRow (l : List UInt8) : List PT × IN := rowsT takeP (aZ l) 64
def aEnd (l : List UInt8) : Int := endF (aRow l).2
theorem aRow_ok (l : List UInt8) : ∀ p ∈ (aRow l).1, PtOk 32768 p := rowsF_all (p := PtOk 32768) takeP_ok _ _ [] (fun _ h => by cases h)
theorem aRow_len (l : List UInt8) : (aRow l).1.length ≤ 64 := by
  have h1 := rowsF_le (tk := takeP) (boundF (aZ l) 64 6).1 (boundF (aZ l) 64 6).2 []
  have h2 := boundF_le (aZ l) (most := 64) (e := 6) (m := 64) (Int.le_refl _)
  unfold aRow rowsT
  rw [List.length_nil] at h1; omega
/-- What a part gives, over a base. -/
def pieceF (a : ByteArray) (p : PT) : ByteArray := if p.kind = 0 then a.extract p.pat (p.pat + p.n) else p.text
def applyP (a : ByteArray) : List PT → List UInt8 → Int × List UInt8
  | [], acc => (0, acc)
  | p :: ps, acc => if p.kind = 0 ∧ a.size < p.pat + p.n then (31, []) else if acc.length + (pieceF a p).size > 32768 then (5, []) else applyP a ps (acc ++ (pieceF a p).data.toList)
def applyF (a : ByteArray) (l : List UInt8) : List UInt8 × Int :=
  if aEnd l ≠ 0 then ([], aEnd l) else if a.size ≠ aFrom l then ([], 31) else if (applyP a (aRow l).1 []).1 ≠ 0 then ([], (applyP a (aRow l).1 []).1)
  else if (applyP a (aRow l).1 []).2.length ≠ aMost l then ([], 4) else ((applyP a (aRow l).1 []).2, 0)
theorem piece_le (a : ByteArray) {p : PT} (h : PtOk 32768 p) : (pieceF a p).size ≤ a.size + 32768 := by
  unfold pieceF
  have := h.2
  split
  · rw [ByteArray.size_extract]; omega
  · omega
theorem drop_get {ps : List PT} {i : Nat} (h : i < ps.length) : ps.drop i = ps.getD i PT0 :: ps.drop (i + 1) := by
  rw [List.drop_eq_getElem_cons h, List.getD_eq_getElem?_getD, List.getElem?_eq_getElem h]; rfl
theorem applyP_far (a : ByteArray) {ps : List PT} {i : Nat} (h : i < ps.length) (acc : List UInt8) (hk : (ps.getD i PT0).kind = 0) (hf : a.size < (ps.getD i PT0).pat + (ps.getD i PT0).n) : applyP a (ps.drop i) acc = (31, []) := by
  rw [drop_get h, applyP, if_pos ⟨hk, hf⟩]
theorem applyP_long (a : ByteArray) {ps : List PT} {i : Nat} (h : i < ps.length) (acc : List UInt8) (hk : ¬ ((ps.getD i PT0).kind = 0 ∧ a.size < (ps.getD i PT0).pat + (ps.getD i PT0).n)) (hl : acc.length + (pieceF a (ps.getD i PT0)).size > 32768) : applyP a (ps.drop i) acc = (5, []) := by
  rw [drop_get h, applyP, if_neg hk, if_pos hl]
theorem applyP_next (a : ByteArray) {ps : List PT} {i : Nat} (h : i < ps.length) (acc : List UInt8) (hk : ¬ ((ps.getD i PT0).kind = 0 ∧ a.size < (ps.getD i PT0).pat + (ps.getD i PT0).n)) (hl : ¬ acc.length + (pieceF a (ps.getD i PT0)).size > 32768) : applyP a (ps.drop i) acc = applyP a (ps.drop (i + 1)) (acc ++ (pieceF a (ps.getD i PT0)).data.toList) := by
  rw [drop_get h, applyP, if_neg hk, if_neg hl]
theorem applyF_end {a : ByteArray} {l : List UInt8} (h : aEnd l ≠ 0) : applyF a l = ([], aEnd l) := if_pos h
theorem applyF_base {a : ByteArray} {l : List UInt8} (h : ¬ aEnd l ≠ 0) (h2 : a.size ≠ aFrom l) : applyF a l = ([], 31) := (if_neg h).trans (if_pos h2)
theorem applyF_bad {a : ByteArray} {l : List UInt8} (h : ¬ aEnd l ≠ 0) (h2 : ¬ a.size ≠ aFrom l) {x : Int} (h3 : applyP a (aRow l).1 [] = (x, [])) (hx : x ≠ 0) : applyF a l = ([], x) := by
  unfold applyF
  rw [if_neg h, if_neg h2, h3, if_pos hx]
theorem applyF_form {a : ByteArray} {l acc : List UInt8} (h : ¬ aEnd l ≠ 0) (h2 : ¬ a.size ≠ aFrom l) (h3 : applyP a (aRow l).1 [] = (0, acc)) (h4 : acc.length ≠ aMost l) : applyF a l = ([], 4) := by
  unfold applyF
  rw [if_neg h, if_neg h2, h3, if_neg (by simp), if_pos h4]
theorem applyF_ok {a : ByteArray} {l acc : List UInt8} (h : ¬ aEnd l ≠ 0) (h2 : ¬ a.size ≠ aFrom l) (h3 : applyP a (aRow l).1 [] = (0, acc)) (h4 : ¬ acc.length ≠ aMost l) : applyF a l = (acc, 0) := by
  unfold applyF
  rw [if_neg h, if_neg h2, h3, if_neg (by simp), if_neg h4]

set_option maxRecDepth 100000 in
theorem dTake (b : Nat) (z : IN) (w : World) (hB : w.heap[b]? = some (.cells (inC z) 66 (0, 0))) :
    Calls Try.prog 21 #[.pointer (some ⟨b, 0, none⟩)] w fun e w' => e = .returned (.agg (pA (takeP z).1)) ∧ Ext [b] w w' ∧ w'.heap[b]? = some (.cells (inC (takeP z).2) 66 (0, 0)) := by
  refine enter (vs := [.pointer (some ⟨b, 0, none⟩)]) [b] [] [(b, .cells (inC z) 66 (0, 0))] Try.func21 rfl (by kernel_rfl) (HP.startM (R := []) (fun _ h => by cases h) hB (by simp)) ?_
  refine Cfg.begL rfl ?_
  refine CfgL.eff (o := _) rfl (by kernel_rfl) (by kernel_rfl) (Eff.alloc (z := (.agg (pA PT0))) rfl (by kernel_rfl)) ?_
  rintro rs ⟨hrs, nrs⟩
  refine CfgL.done rfl ?_
  refine Cfg.begL rfl ?_
  refine CfgL.pure 1 [] none (Γ' := [(4, [], .pointer (some ⟨b, 0, none⟩)), (2, [], .pointer (some ⟨rs, 0, none⟩)), (0, [], .pointer (some ⟨b, 0, none⟩))]) (nd := (fun _ => [])) (by kernel_rfl) (fun _ => by kernel_rfl) trivial ?_
  refine CfgL.eff (o := _) rfl (by kernel_rfl) (by kernel_rfl) (Eff.callM (vs := [.pointer (some ⟨b, 0, none⟩)]) (.int .u8 ((byteF z).1 : Int)) 1 (b := b) (ob := .cells (inC z) 66 (0, 0)) (.cells (inC ((byteF z).2)) 66 (0, 0)) rfl Try.func34 rfl rfl (by kernel_rfl) (by kernel_rfl) (fun w1 h => wTByte b z w1 (h.own (b, _) (List.mem_of_getElem? (i := 1) rfl)))) ?_
  rintro ⟨⟩ -
  refine CfgL.pure 1 [(0, false, some (.agg #[.int .u8 ((byteF z).1 : Int), .int .u32 0, .int .u32 0, .string ByteArray.empty]))] none (Γ' := [(6, [], .agg #[.int .u8 ((byteF z).1 : Int), .int .u32 0, .int .u32 0, .string ByteArray.empty]), (5, [], .int .u8 ((byteF z).1 : Int)), (4, [], .pointer (some ⟨b, 0, none⟩)), (2, [], .pointer (some ⟨rs, 0, none⟩)), (0, [], .pointer (some ⟨b, 0, none⟩))]) (nd := (fun S => [(∀ w1, S w1 → (Instr.build 35 #[(0, .int .u8 ((byteF z).1 : Int))]).run Try.prog w1 = .ok (.agg #[.int .u8 ((byteF z).1 : Int), .int .u32 0, .int .u32 0, .string ByteArray.empty]) w1)])) (by kernel_rfl) (fun _ => by kernel_rfl) ⟨(fun _ _ => by kernel_rfl), trivial⟩ ?_
  refine CfgL.eff (o := _) rfl (by kernel_rfl) (by kernel_rfl) (Eff.alloc (z := (.agg (pA PT0))) rfl (by kernel_rfl)) ?_
  rintro pt ⟨hpt, npt⟩
  refine CfgL.eff (o := _) rfl (by kernel_rfl) (by kernel_rfl) (Eff.storeN (b := pt) (off := 0) (vs := #[.int .u8 ((byteF z).1 : Int), .int .u32 0, .int .u32 0, .string ByteArray.empty]) (n := 4) rfl (by kernel_rfl) (by kernel_rfl) (by kernel_rfl) rfl (by simp [one]) 0 (cs := (pA PT0)) (e := 35) (by kernel_rfl) (by rw [pA_size]; omega)) ?_
  rintro ⟨⟩ -
  refine CfgL.setO (O' := [(pt, .cells #[.int .u8 ((byteF z).1 : Int), .int .u32 0, .int .u32 0, .string ⟨#[]⟩] 35 (0, 0)), (rs, .cells (pA PT0) 35 (0, 0)), (b, .cells (inC ((byteF z).2)) 66 (0, 0))]) (congrArg (fun (xq : Array Value) => ([(pt, .cells xq 35 (0, 0)), (rs, .cells (pA PT0) 35 (0, 0)), (b, .cells (inC ((byteF z).2)) 66 (0, 0))] : List (Nat × Obj))) (spl_all rfl)) ?_
  refine CfgL.done rfl ?_
  refine Conv.cfg (Γ' := [(3, [], .pointer (some ⟨pt, 0, none⟩)), (2, [], .pointer (some ⟨rs, 0, none⟩)), (0, [], .pointer (some ⟨b, 0, none⟩))]) (Conv.mk (by kernel_rfl)) ?_
  refine Cfg.reg rfl [0, 2, 3, 8] [(0, false, none), (0, false, some (.int .u8 ((byteF z).1 : Int)))] (Γ' := [(8, [], .int .u8 ((byteF z).1 : Int)), (3, [], .pointer (some ⟨pt, 0, none⟩)), (2, [], .pointer (some ⟨rs, 0, none⟩)), (0, [], .pointer (some ⟨b, 0, none⟩))]) (nd := (fun S => [(∀ w1, S w1 → w1.cell? ⟨pt, 0, none⟩ = some (.int .u8 ((byteF z).1 : Int)))])) (fun _ => by kernel_rfl) ⟨(fun w1 h => h.ocell 0 rfl rfl), trivial⟩ ?_
  refine Cfg.reg rfl [0, 2, 3, 8, 11] [] (Γ' := [(11, [], .bool (((byteF z).1 : Int) == (0 : Int))), (8, [], .int .u8 ((byteF z).1 : Int)), (3, [], .pointer (some ⟨pt, 0, none⟩)), (2, [], .pointer (some ⟨rs, 0, none⟩)), (0, [], .pointer (some ⟨b, 0, none⟩))]) (nd := (fun _ => [])) (fun _ => by kernel_rfl) trivial ?_
  refine Cfg.cond rfl (b := (((byteF z).1 : Int) == (0 : Int))) (by kernel_rfl) (fun c1r => ?_) (fun c1r => ?_)
  · have c1 : (((byteF z).1 : Int) = (0 : Int)) := (beq_iff_eq.1 c1r)
    refine Cfg.begL rfl ?_
    refine CfgL.pure 1 [] none (Γ' := [(13, [], .pointer (some ⟨b, 0, none⟩)), (11, [], .bool (((byteF z).1 : Int) == (0 : Int))), (8, [], .int .u8 ((byteF z).1 : Int)), (3, [], .pointer (some ⟨pt, 0, none⟩)), (2, [], .pointer (some ⟨rs, 0, none⟩)), (0, [], .pointer (some ⟨b, 0, none⟩))]) (nd := (fun _ => [])) (by kernel_rfl) (fun _ => by kernel_rfl) trivial ?_
    refine CfgL.eff (o := _) rfl (by kernel_rfl) (by kernel_rfl) (Eff.callM (vs := [.pointer (some ⟨b, 0, none⟩)]) (.int .u32 ((fourF ((byteF z).2)).1 : Int)) 2 (b := b) (ob := .cells (inC ((byteF z).2)) 66 (0, 0)) (.cells (inC ((fourF ((byteF z).2)).2)) 66 (0, 0)) rfl Try.func19 rfl rfl (by kernel_rfl) (by kernel_rfl) (fun w1 h => wTFour b ((byteF z).2) w1 (h.own (b, _) (List.mem_of_getElem? (i := 2) rfl)))) ?_
    rintro ⟨⟩ -
    refine CfgL.pure 1 [] none (Γ' := [(15, [], .pointer (some ⟨pt, 1, none⟩)), (14, [], .int .u32 ((fourF ((byteF z).2)).1 : Int)), (13, [], .pointer (some ⟨b, 0, none⟩)), (11, [], .bool (((byteF z).1 : Int) == (0 : Int))), (8, [], .int .u8 ((byteF z).1 : Int)), (3, [], .pointer (some ⟨pt, 0, none⟩)), (2, [], .pointer (some ⟨rs, 0, none⟩)), (0, [], .pointer (some ⟨b, 0, none⟩))]) (nd := (fun _ => [])) (by kernel_rfl) (fun _ => by kernel_rfl) trivial ?_
    refine CfgL.eff (o := _) rfl (by kernel_rfl) (by kernel_rfl) (Eff.store1 (b := pt) (off := 1) (v := .int .u32 ((fourF ((byteF z).2)).1 : Int)) rfl (by kernel_rfl) (by kernel_rfl) rfl (by kernel_rfl) 0 (cs := #[.int .u8 ((byteF z).1 : Int), .int .u32 0, .int .u32 0, .string ⟨#[]⟩]) (e := 35) (by kernel_rfl) (by simp)) ?_
    rintro ⟨⟩ -
    refine CfgL.done rfl ?_
    refine Conv.cfg (Γ' := [(3, [], .pointer (some ⟨pt, 0, none⟩)), (2, [], .pointer (some ⟨rs, 0, none⟩)), (0, [], .pointer (some ⟨b, 0, none⟩))]) (Conv.mk (by kernel_rfl)) ?_
    refine Cfg.begL rfl ?_
    refine CfgL.pure 1 [] none (Γ' := [(16, [], .pointer (some ⟨b, 0, none⟩)), (3, [], .pointer (some ⟨pt, 0, none⟩)), (2, [], .pointer (some ⟨rs, 0, none⟩)), (0, [], .pointer (some ⟨b, 0, none⟩))]) (nd := (fun _ => [])) (by kernel_rfl) (fun _ => by kernel_rfl) trivial ?_
    refine CfgL.eff (o := _) rfl (by kernel_rfl) (by kernel_rfl) (Eff.callM (vs := [.pointer (some ⟨b, 0, none⟩)]) (.int .u32 ((fourF ((fourF ((byteF z).2)).2)).1 : Int)) 2 (b := b) (ob := .cells (inC ((fourF ((byteF z).2)).2)) 66 (0, 0)) (.cells (inC ((fourF ((fourF ((byteF z).2)).2)).2)) 66 (0, 0)) rfl Try.func19 rfl rfl (by kernel_rfl) (by kernel_rfl) (fun w1 h => wTFour b ((fourF ((byteF z).2)).2) w1 (h.own (b, _) (List.mem_of_getElem? (i := 2) rfl)))) ?_
    rintro ⟨⟩ -
    refine CfgL.pure 1 [] none (Γ' := [(18, [], .pointer (some ⟨pt, 2, none⟩)), (17, [], .int .u32 ((fourF ((fourF ((byteF z).2)).2)).1 : Int)), (16, [], .pointer (some ⟨b, 0, none⟩)), (3, [], .pointer (some ⟨pt, 0, none⟩)), (2, [], .pointer (some ⟨rs, 0, none⟩)), (0, [], .pointer (some ⟨b, 0, none⟩))]) (nd := (fun _ => [])) (by kernel_rfl) (fun _ => by kernel_rfl) trivial ?_
    refine CfgL.eff (o := _) rfl (by kernel_rfl) (by kernel_rfl) (Eff.store1 (b := pt) (off := 2) (v := .int .u32 ((fourF ((fourF ((byteF z).2)).2)).1 : Int)) rfl (by kernel_rfl) (by kernel_rfl) rfl (by kernel_rfl) 0 (cs := (#[.int .u8 ((byteF z).1 : Int), .int .u32 0, .int .u32 0, .string ⟨#[]⟩].setIfInBounds 1 (.int .u32 ((fourF ((byteF z).2)).1 : Int)))) (e := 35) (by kernel_rfl) (by simp)) ?_
    rintro ⟨⟩ -
    refine CfgL.done rfl ?_
    refine Conv.cfg (Γ' := [(3, [], .pointer (some ⟨pt, 0, none⟩)), (2, [], .pointer (some ⟨rs, 0, none⟩))]) (Conv.mk (by kernel_rfl)) ?_
    have hx : takeP z = (⟨0, (fourF (byteF z).2).1, (fourF (fourF (byteF z).2).2).1, ByteArray.empty⟩, (fourF (fourF (byteF z).2).2).2) := if_pos (by omega)
    refine Cfg.setO (O' := [(pt, .cells (pA (takeP z).1) 35 (0, 0)), (rs, .cells (pA PT0) 35 (0, 0)), (b, .cells (inC ((fourF ((fourF ((byteF z).2)).2)).2)) 66 (0, 0))]) (congrArg (fun (xq : Array Value) => ([(pt, .cells xq 35 (0, 0)), (rs, .cells (pA PT0) 35 (0, 0)), (b, .cells (inC ((fourF ((fourF ((byteF z).2)).2)).2)) 66 (0, 0))] : List (Nat × Obj))) (by rw [hx, show (byteF z).1 = 0 by omega]; rfl)) ?_
    refine Cfg.setO (O' := [(pt, .cells (pA (takeP z).1) 35 (0, 0)), (rs, .cells (pA PT0) 35 (0, 0)), (b, .cells (inC ((takeP z).2)) 66 (0, 0))]) (congrArg (fun (xq : Array Value) => ([(pt, .cells (pA (takeP z).1) 35 (0, 0)), (rs, .cells (pA PT0) 35 (0, 0)), (b, .cells xq 66 (0, 0))] : List (Nat × Obj))) (by rw [hx])) ?_
    refine Cfg.begL rfl ?_
    refine CfgL.pure 1 [(0, false, some (.agg (pA (takeP z).1)))] none (Γ' := [(24, [], .agg (pA (takeP z).1)), (3, [], .pointer (some ⟨pt, 0, none⟩)), (2, [], .pointer (some ⟨rs, 0, none⟩))]) (nd := (fun S => [(∀ w1, S w1 → (loadVar 35 ⟨pt, 0, none⟩).run Try.prog w1 = .ok (.agg (pA (takeP z).1)) w1)])) (by kernel_rfl) (fun _ => by kernel_rfl) ⟨(fun w1 h => h.oload 0 rfl Try.underlying35 rfl (n := 4) (by kernel_rfl) rfl), trivial⟩ ?_
    refine CfgL.eff (o := _) rfl (by kernel_rfl) (by kernel_rfl) (Eff.storeN (b := rs) (off := 0) (vs := (pA (takeP z).1)) (n := 4) rfl (by kernel_rfl) (by kernel_rfl) (by kernel_rfl) rfl (all_pA _) 1 (cs := (pA PT0)) (e := 35) (by kernel_rfl) (by rw [pA_size]; omega)) ?_
    rintro ⟨⟩ -
    refine CfgL.setO (O' := [(pt, .cells (pA (takeP z).1) 35 (0, 0)), (rs, .cells (pA (takeP z).1) 35 (0, 0)), (b, .cells (inC ((takeP z).2)) 66 (0, 0))]) (congrArg (fun (xq : Array Value) => ([(pt, .cells (pA (takeP z).1) 35 (0, 0)), (rs, .cells xq 35 (0, 0)), (b, .cells (inC ((takeP z).2)) 66 (0, 0))] : List (Nat × Obj))) (spl_all rfl)) ?_
    refine CfgL.done rfl ?_
    refine Conv.cfg (Γ' := [(2, [], .pointer (some ⟨rs, 0, none⟩))]) (Conv.mk (by kernel_rfl)) ?_
    refine Cfg.ret rfl (rs := [.cell 2 35]) rfl [.agg (pA (takeP z).1)] ⟨⟨_, by kernel_rfl, (fun w1 h => h.oload 1 rfl Try.underlying35 rfl (n := 4) (by kernel_rfl) rfl)⟩, trivial⟩ (fun w1 hp => ?_)
    exact ⟨rfl, hp.ext, hp.own (b, _) (List.mem_of_getElem? (i := 2) rfl)⟩
  · have c1 : (((byteF z).1 : Int) ≠ (0 : Int)) := (beq_eq_false_iff_ne.1 c1r)
    refine Cfg.reg rfl [0, 2, 3, 19] [] (Γ' := [(19, [], .bool (((byteF z).1 : Int) == (1 : Int))), (3, [], .pointer (some ⟨pt, 0, none⟩)), (2, [], .pointer (some ⟨rs, 0, none⟩)), (0, [], .pointer (some ⟨b, 0, none⟩))]) (nd := (fun _ => [])) (fun _ => by kernel_rfl) trivial ?_
    refine Cfg.cond rfl (b := (((byteF z).1 : Int) == (1 : Int))) (by kernel_rfl) (fun c2r => ?_) (fun c2r => ?_)
    · have c2 : (((byteF z).1 : Int) = (1 : Int)) := (beq_iff_eq.1 c2r)
      refine Cfg.begL rfl ?_
      refine CfgL.pure 1 [] none (Γ' := [(21, [], .pointer (some ⟨b, 0, none⟩)), (19, [], .bool (((byteF z).1 : Int) == (1 : Int))), (3, [], .pointer (some ⟨pt, 0, none⟩)), (2, [], .pointer (some ⟨rs, 0, none⟩)), (0, [], .pointer (some ⟨b, 0, none⟩))]) (nd := (fun _ => [])) (by kernel_rfl) (fun _ => by kernel_rfl) trivial ?_
      refine CfgL.eff (o := _) rfl (by kernel_rfl) (by kernel_rfl) (Eff.callM (vs := [.pointer (some ⟨b, 0, none⟩), .int .i64 32768]) (.string (tx (textF ((byteF z).2) (32768 : Int)).1)) 2 (b := b) (ob := .cells (inC ((byteF z).2)) 66 (0, 0)) (.cells (inC ((textF ((byteF z).2) (32768 : Int)).2)) 66 (0, 0)) rfl Try.func35 rfl rfl (by kernel_rfl) (by kernel_rfl) (fun w1 h => wTText b ((byteF z).2) (32768 : Int) w1 (h.own (b, _) (List.mem_of_getElem? (i := 2) rfl)) (by decide))) ?_
      rintro ⟨⟩ -
      refine CfgL.pure 1 [] none (Γ' := [(23, [], .pointer (some ⟨pt, 3, none⟩)), (22, [], .string (tx (textF ((byteF z).2) (32768 : Int)).1)), (21, [], .pointer (some ⟨b, 0, none⟩)), (19, [], .bool (((byteF z).1 : Int) == (1 : Int))), (3, [], .pointer (some ⟨pt, 0, none⟩)), (2, [], .pointer (some ⟨rs, 0, none⟩)), (0, [], .pointer (some ⟨b, 0, none⟩))]) (nd := (fun _ => [])) (by kernel_rfl) (fun _ => by kernel_rfl) trivial ?_
      refine CfgL.eff (o := _) rfl (by kernel_rfl) (by kernel_rfl) (Eff.store1 (b := pt) (off := 3) (v := .string (tx (textF ((byteF z).2) (32768 : Int)).1)) rfl (by kernel_rfl) (by kernel_rfl) rfl (by kernel_rfl) 0 (cs := #[.int .u8 ((byteF z).1 : Int), .int .u32 0, .int .u32 0, .string ⟨#[]⟩]) (e := 35) (by kernel_rfl) (by simp)) ?_
      rintro ⟨⟩ -
      refine CfgL.done rfl ?_
      refine Conv.cfg (Γ' := [(3, [], .pointer (some ⟨pt, 0, none⟩)), (2, [], .pointer (some ⟨rs, 0, none⟩))]) (Conv.mk (by kernel_rfl)) ?_
      have hx : takeP z = (⟨1, 0, 0, tx (textF (byteF z).2 32768).1⟩, (textF (byteF z).2 32768).2) := (if_neg (by omega)).trans (if_pos (by omega))
      refine Cfg.setO (O' := [(pt, .cells (pA (takeP z).1) 35 (0, 0)), (rs, .cells (pA PT0) 35 (0, 0)), (b, .cells (inC ((textF ((byteF z).2) (32768 : Int)).2)) 66 (0, 0))]) (congrArg (fun (xq : Array Value) => ([(pt, .cells xq 35 (0, 0)), (rs, .cells (pA PT0) 35 (0, 0)), (b, .cells (inC ((textF ((byteF z).2) (32768 : Int)).2)) 66 (0, 0))] : List (Nat × Obj))) (by rw [hx, show (byteF z).1 = 1 by omega]; rfl)) ?_
      refine Cfg.setO (O' := [(pt, .cells (pA (takeP z).1) 35 (0, 0)), (rs, .cells (pA PT0) 35 (0, 0)), (b, .cells (inC ((takeP z).2)) 66 (0, 0))]) (congrArg (fun (xq : Array Value) => ([(pt, .cells (pA (takeP z).1) 35 (0, 0)), (rs, .cells (pA PT0) 35 (0, 0)), (b, .cells xq 66 (0, 0))] : List (Nat × Obj))) (by rw [hx])) ?_
      refine Cfg.begL rfl ?_
      refine CfgL.pure 1 [(0, false, some (.agg (pA (takeP z).1)))] none (Γ' := [(24, [], .agg (pA (takeP z).1)), (3, [], .pointer (some ⟨pt, 0, none⟩)), (2, [], .pointer (some ⟨rs, 0, none⟩))]) (nd := (fun S => [(∀ w1, S w1 → (loadVar 35 ⟨pt, 0, none⟩).run Try.prog w1 = .ok (.agg (pA (takeP z).1)) w1)])) (by kernel_rfl) (fun _ => by kernel_rfl) ⟨(fun w1 h => h.oload 0 rfl Try.underlying35 rfl (n := 4) (by kernel_rfl) rfl), trivial⟩ ?_
      refine CfgL.eff (o := _) rfl (by kernel_rfl) (by kernel_rfl) (Eff.storeN (b := rs) (off := 0) (vs := (pA (takeP z).1)) (n := 4) rfl (by kernel_rfl) (by kernel_rfl) (by kernel_rfl) rfl (all_pA _) 1 (cs := (pA PT0)) (e := 35) (by kernel_rfl) (by rw [pA_size]; omega)) ?_
      rintro ⟨⟩ -
      refine CfgL.setO (O' := [(pt, .cells (pA (takeP z).1) 35 (0, 0)), (rs, .cells (pA (takeP z).1) 35 (0, 0)), (b, .cells (inC ((takeP z).2)) 66 (0, 0))]) (congrArg (fun (xq : Array Value) => ([(pt, .cells (pA (takeP z).1) 35 (0, 0)), (rs, .cells xq 35 (0, 0)), (b, .cells (inC ((takeP z).2)) 66 (0, 0))] : List (Nat × Obj))) (spl_all rfl)) ?_
      refine CfgL.done rfl ?_
      refine Conv.cfg (Γ' := [(2, [], .pointer (some ⟨rs, 0, none⟩))]) (Conv.mk (by kernel_rfl)) ?_
      refine Cfg.ret rfl (rs := [.cell 2 35]) rfl [.agg (pA (takeP z).1)] ⟨⟨_, by kernel_rfl, (fun w1 h => h.oload 1 rfl Try.underlying35 rfl (n := 4) (by kernel_rfl) rfl)⟩, trivial⟩ (fun w1 hp => ?_)
      exact ⟨rfl, hp.ext, hp.own (b, _) (List.mem_of_getElem? (i := 2) rfl)⟩
    · have c2 : (((byteF z).1 : Int) ≠ (1 : Int)) := (beq_eq_false_iff_ne.1 c2r)
      refine Cfg.begL rfl ?_
      refine CfgL.pure 1 [] none (Γ' := [(9, [], .pointer (some ⟨b, 0, none⟩)), (19, [], .bool (((byteF z).1 : Int) == (1 : Int))), (3, [], .pointer (some ⟨pt, 0, none⟩)), (2, [], .pointer (some ⟨rs, 0, none⟩)), (0, [], .pointer (some ⟨b, 0, none⟩))]) (nd := (fun _ => [])) (by kernel_rfl) (fun _ => by kernel_rfl) trivial ?_
      refine CfgL.eff (o := _) rfl (by kernel_rfl) (by kernel_rfl) (Eff.callM (vs := [.pointer (some ⟨b, 0, none⟩), .int .i64 11]) (.tuple #[]) 2 (b := b) (ob := .cells (inC ((byteF z).2)) 66 (0, 0)) (.cells (inC (failF ((byteF z).2) (11 : Int))) 66 (0, 0)) rfl Try.func36 rfl rfl (by kernel_rfl) (by kernel_rfl) (fun w1 h => wFail b ((byteF z).2) (11 : Int) w1 (h.own (b, _) (List.mem_of_getElem? (i := 2) rfl)))) ?_
      rintro ⟨⟩ -
      refine CfgL.done rfl ?_
      refine Conv.cfg (Γ' := [(3, [], .pointer (some ⟨pt, 0, none⟩)), (2, [], .pointer (some ⟨rs, 0, none⟩))]) (Conv.mk (by kernel_rfl)) ?_
      have hx : takeP z = (⟨(byteF z).1, 0, 0, ByteArray.empty⟩, failF (byteF z).2 11) := (if_neg (by omega)).trans (if_neg (by omega))
      refine Cfg.setO (O' := [(pt, .cells (pA (takeP z).1) 35 (0, 0)), (rs, .cells (pA PT0) 35 (0, 0)), (b, .cells (inC (failF ((byteF z).2) (11 : Int))) 66 (0, 0))]) (congrArg (fun (xq : Array Value) => ([(pt, .cells xq 35 (0, 0)), (rs, .cells (pA PT0) 35 (0, 0)), (b, .cells (inC (failF ((byteF z).2) (11 : Int))) 66 (0, 0))] : List (Nat × Obj))) (by rw [hx]; rfl)) ?_
      refine Cfg.setO (O' := [(pt, .cells (pA (takeP z).1) 35 (0, 0)), (rs, .cells (pA PT0) 35 (0, 0)), (b, .cells (inC ((takeP z).2)) 66 (0, 0))]) (congrArg (fun (xq : Array Value) => ([(pt, .cells (pA (takeP z).1) 35 (0, 0)), (rs, .cells (pA PT0) 35 (0, 0)), (b, .cells xq 66 (0, 0))] : List (Nat × Obj))) (by rw [hx])) ?_
      refine Cfg.begL rfl ?_
      refine CfgL.pure 1 [(0, false, some (.agg (pA (takeP z).1)))] none (Γ' := [(24, [], .agg (pA (takeP z).1)), (3, [], .pointer (some ⟨pt, 0, none⟩)), (2, [], .pointer (some ⟨rs, 0, none⟩))]) (nd := (fun S => [(∀ w1, S w1 → (loadVar 35 ⟨pt, 0, none⟩).run Try.prog w1 = .ok (.agg (pA (takeP z).1)) w1)])) (by kernel_rfl) (fun _ => by kernel_rfl) ⟨(fun w1 h => h.oload 0 rfl Try.underlying35 rfl (n := 4) (by kernel_rfl) rfl), trivial⟩ ?_
      refine CfgL.eff (o := _) rfl (by kernel_rfl) (by kernel_rfl) (Eff.storeN (b := rs) (off := 0) (vs := (pA (takeP z).1)) (n := 4) rfl (by kernel_rfl) (by kernel_rfl) (by kernel_rfl) rfl (all_pA _) 1 (cs := (pA PT0)) (e := 35) (by kernel_rfl) (by rw [pA_size]; omega)) ?_
      rintro ⟨⟩ -
      refine CfgL.setO (O' := [(pt, .cells (pA (takeP z).1) 35 (0, 0)), (rs, .cells (pA (takeP z).1) 35 (0, 0)), (b, .cells (inC ((takeP z).2)) 66 (0, 0))]) (congrArg (fun (xq : Array Value) => ([(pt, .cells (pA (takeP z).1) 35 (0, 0)), (rs, .cells xq 35 (0, 0)), (b, .cells (inC ((takeP z).2)) 66 (0, 0))] : List (Nat × Obj))) (spl_all rfl)) ?_
      refine CfgL.done rfl ?_
      refine Conv.cfg (Γ' := [(2, [], .pointer (some ⟨rs, 0, none⟩))]) (Conv.mk (by kernel_rfl)) ?_
      refine Cfg.ret rfl (rs := [.cell 2 35]) rfl [.agg (pA (takeP z).1)] ⟨⟨_, by kernel_rfl, (fun w1 h => h.oload 1 rfl Try.underlying35 rfl (n := 4) (by kernel_rfl) rfl)⟩, trivial⟩ (fun w1 hp => ?_)
      exact ⟨rfl, hp.ext, hp.own (b, _) (List.mem_of_getElem? (i := 2) rfl)⟩

set_option maxRecDepth 100000 in
theorem wRowsP (b : Nat) (z : IN) (most : Int) (w : World) (hB : w.heap[b]? = some (.cells (inC z) 66 (0, 0))) (hm : most ≤ 1048576) :
    Calls Try.prog 20 #[.pointer (some ⟨b, 0, none⟩), .int .i64 most, .func (.func 21) #[] #[]] w fun e w' => ∃ o : Own, OwnOk o 4 (rowsT takeP z most).1.length (pcells (rowsT takeP z most).1) ∧ e = .returned (.slice o.a (rowsT takeP z most).1.length o.c) ∧ Ext [b] w w' ∧ w'.heap[b]? = some (.cells (inC (rowsT takeP z most).2) 66 (0, 0)) ∧ Has w' (o.o 35 (pcells (rowsT takeP z most).1)) ∧ (∀ x ∈ o.o 35 (pcells (rowsT takeP z most).1), w.heap.size ≤ x.1) := by
  have hbl := boundF_lt z most 6
  have hbm : (boundF z most 6).1 ≤ 1048576 := boundF_le z (by omega)
  refine enter (vs := [.pointer (some ⟨b, 0, none⟩), .int .i64 most, .func (.func 21) #[] #[]]) [b] [] [(b, .cells (inC z) 66 (0, 0))] Try.func20 rfl (by kernel_rfl) (HP.startM (R := []) (fun _ h => by cases h) hB (by simp)) ?_
  refine Cfg.reg rfl [0, 1, 2] [] (Γ' := [(0, [], .pointer (some ⟨b, 0, none⟩)), (1, [], .int .i64 most), (2, [], .func (.func 21) #[] #[])]) (nd := (fun _ => [])) (fun _ => by kernel_rfl) trivial ?_
  refine Cfg.reg rfl [0, 1, 2, 7] [] (Γ' := [(7, [], .slice none 0 0), (0, [], .pointer (some ⟨b, 0, none⟩)), (1, [], .int .i64 most), (2, [], .func (.func 21) #[] #[])]) (nd := (fun _ => [])) (fun _ => by kernel_rfl) trivial ?_
  refine Cfg.begL rfl ?_
  refine CfgL.pure 2 [] none (Γ' := [(10, [], .int .i64 most), (9, [], .pointer (some ⟨b, 0, none⟩)), (7, [], .slice none 0 0), (0, [], .pointer (some ⟨b, 0, none⟩)), (1, [], .int .i64 most), (2, [], .func (.func 21) #[] #[])]) (nd := (fun _ => [])) (by kernel_rfl) (fun _ => by kernel_rfl) trivial ?_
  refine CfgL.eff (o := _) rfl (by kernel_rfl) (by kernel_rfl) (Eff.callM (vs := [.pointer (some ⟨b, 0, none⟩), .int .i64 most]) (.int .i64 ((boundF z most 6).1 : Int)) 0 (b := b) (ob := .cells (inC z) 66 (0, 0)) (.cells (inC ((boundF z most 6).2)) 66 (0, 0)) rfl Try.func32 rfl rfl (by kernel_rfl) (by kernel_rfl) (fun w1 h => wCount b z most w1 (h.own (b, _) (List.mem_of_getElem? (i := 0) rfl)) (by omega))) ?_
  rintro ⟨⟩ -
  refine CfgL.pure 1 [] (some [0, 2, 7, 11, 12]) (Γ' := [(12, [], .int .i64 0), (11, [], .int .i64 ((boundF z most 6).1 : Int)), (7, [], .slice none 0 0), (0, [], .pointer (some ⟨b, 0, none⟩)), (2, [], .func (.func 21) #[] #[])]) (nd := (fun _ => [])) (by kernel_rfl) (fun _ => by kernel_rfl) trivial ?_
  refine CfgL.done rfl ?_
  refine Cfg.loop rfl (ι := Nat × IN × List PT × Own) (fun (x : Nat × IN × List PT × Own) => match x with | (i, y, acc, own) => [(12, [], .int .i64 (i : Int)), (11, [], .int .i64 ((boundF z most 6).1 : Int)), (7, [], .slice (Own.a own) acc.length (Own.c own)), (0, [], .pointer (some ⟨b, 0, none⟩)), (2, [], .func (.func 21) #[] #[])]) (fun (x : Nat × IN × List PT × Own) => match x with | (i, y, acc, own) => ([(b, .cells (inC y) 66 (0, 0))] ++ (Own.o 35 (pcells acc) own ++ []))) (fun (x : Nat × IN × List PT × Own) => match x with | (i, y, acc, own) => (RowAt takeP (boundF z most 6).1 (boundF z most 6).2 i y acc) ∧ (OwnOk own 4 acc.length (pcells acc))) (fun (x : Nat × IN × List PT × Own) => match x with | (i, y, acc, own) => (boundF z most 6).1 - i) (0, (boundF z most 6).2, [], none) ?_ (Conv.mk (by kernel_rfl)) (List.Sublist.refl _) ?_
  · exact ⟨RowAt.start _ _ _, OwnOk.none _⟩
  · rintro ⟨i, y, acc, own⟩ ⟨hra, hok⟩
    have hal := hra.len
    have hle := hra.le
    refine Cfg.reg rfl [0, 2, 7, 11, 12, 13] [] (Γ' := [(13, [], .bool (decide ((i : Int) < ((boundF z most 6).1 : Int)))), (12, [], .int .i64 (i : Int)), (11, [], .int .i64 ((boundF z most 6).1 : Int)), (7, [], .slice (Own.a own) acc.length (Own.c own)), (0, [], .pointer (some ⟨b, 0, none⟩)), (2, [], .func (.func 21) #[] #[])]) (nd := (fun _ => [])) (fun _ => by kernel_rfl) trivial ?_
    refine Cfg.cond rfl (b := (decide ((i : Int) < ((boundF z most 6).1 : Int)))) (by kernel_rfl) (fun c1r => ?_) (fun c1r => ?_)
    · have c1 : ((i : Int) < ((boundF z most 6).1 : Int)) := (of_decide_eq_true c1r)
      refine Cfg.begL rfl ?_
      refine CfgL.pure 2 [] none (Γ' := [(15, [], .pointer (some ⟨b, 0, none⟩)), (14, [], .func (.func 21) #[] #[]), (13, [], .bool (decide ((i : Int) < ((boundF z most 6).1 : Int)))), (12, [], .int .i64 (i : Int)), (11, [], .int .i64 ((boundF z most 6).1 : Int)), (7, [], .slice (Own.a own) acc.length (Own.c own)), (0, [], .pointer (some ⟨b, 0, none⟩)), (2, [], .func (.func 21) #[] #[])]) (nd := (fun _ => [])) (by kernel_rfl) (fun _ => by kernel_rfl) trivial ?_
      refine CfgL.eff (o := _) rfl (by kernel_rfl) (by kernel_rfl) (Eff.callMV (vs := [.pointer (some ⟨b, 0, none⟩)]) (.agg (pA (takeP y).1)) 0 (b := b) (ob := .cells (inC y) 66 (0, 0)) (.cells (inC (takeP y).2) 66 (0, 0)) rfl (by kernel_rfl) Try.func21 rfl rfl (by kernel_rfl) (by kernel_rfl) (fun w1 h => dTake b y w1 (h.own (b, _) (List.mem_of_getElem? (i := 0) rfl)))) ?_
      rintro ⟨⟩ -
      refine CfgL.eff (o := _) rfl (by kernel_rfl) (by kernel_rfl) (Eff.alloc (z := (.agg (pA PT0))) rfl (by kernel_rfl)) ?_
      rintro el ⟨hel, nel⟩
      refine CfgL.eff (o := _) rfl (by kernel_rfl) (by kernel_rfl) (Eff.storeN (b := el) (off := 0) (vs := (pA (takeP y).1)) (n := 4) rfl (by kernel_rfl) (by kernel_rfl) (by kernel_rfl) rfl (all_pA _) 0 (cs := (pA PT0)) (e := 35) (by kernel_rfl) (by rw [pA_size]; omega)) ?_
      rintro ⟨⟩ -
      refine CfgL.setO (O' := ([(el, .cells (pA (takeP y).1) 35 (0, 0)), (b, .cells (inC ((takeP y).2)) 66 (0, 0))] ++ (Own.o 35 (pcells acc) own ++ []))) (congrArg (fun (xq : Array Value) => (([(el, .cells xq 35 (0, 0)), (b, .cells (inC ((takeP y).2)) 66 (0, 0))] ++ (Own.o 35 (pcells acc) own ++ [])) : List (Nat × Obj))) ((show spl (pA PT0) 0 ((pA (takeP y).1)).toList = (pA (takeP y).1) from spl_all rfl))) ?_
      refine CfgL.done rfl ?_
      refine Conv.cfg (Γ' := [(8, [], .pointer (some ⟨el, 0, none⟩)), (12, [], .int .i64 (i : Int)), (11, [], .int .i64 ((boundF z most 6).1 : Int)), (7, [], .slice (Own.a own) acc.length (Own.c own)), (0, [], .pointer (some ⟨b, 0, none⟩)), (2, [], .func (.func 21) #[] #[])]) (Conv.mk (by kernel_rfl)) ?_
      refine Cfg.begL rfl ?_
      refine CfgL.pure 1 [] none (Γ' := [(17, [], .pointer (some ⟨b, 0, none⟩)), (8, [], .pointer (some ⟨el, 0, none⟩)), (12, [], .int .i64 (i : Int)), (11, [], .int .i64 ((boundF z most 6).1 : Int)), (7, [], .slice (Own.a own) acc.length (Own.c own)), (0, [], .pointer (some ⟨b, 0, none⟩)), (2, [], .func (.func 21) #[] #[])]) (nd := (fun _ => [])) (by kernel_rfl) (fun _ => by kernel_rfl) trivial ?_
      refine CfgL.eff (o := _) rfl (by kernel_rfl) (by kernel_rfl) (Eff.callA (vs := [.pointer (some ⟨b, 0, none⟩)]) (.int .i64 (((takeP y).2).er)) rfl Try.func33 rfl rfl (by kernel_rfl) (fun w1 h => wErr b ((takeP y).2) w1 (h.own (b, _) (List.mem_of_getElem? (i := 1) rfl)))) ?_
      rintro ⟨⟩ -
      refine CfgL.pure 1 [] (some [0, 2, 7, 8, 11, 12, 19]) (Γ' := [(19, [], .bool ((((takeP y).2).er) != (0 : Int))), (8, [], .pointer (some ⟨el, 0, none⟩)), (12, [], .int .i64 (i : Int)), (11, [], .int .i64 ((boundF z most 6).1 : Int)), (7, [], .slice (Own.a own) acc.length (Own.c own)), (0, [], .pointer (some ⟨b, 0, none⟩)), (2, [], .func (.func 21) #[] #[])]) (nd := (fun _ => [])) (by kernel_rfl) (fun _ => by kernel_rfl) trivial ?_
      refine CfgL.done rfl ?_
      refine Cfg.cond rfl (b := ((((takeP y).2).er) != (0 : Int))) (by kernel_rfl) (fun c2r => ?_) (fun c2r => ?_)
      · have c2 : ((((takeP y).2).er) ≠ (0 : Int)) := (bne_iff_ne.1 c2r)
        refine Cfg.reg rfl [6] [] (Γ' := [(6, [], .slice none 0 0)]) (nd := (fun _ => [])) (fun _ => by kernel_rfl) trivial ?_
        refine Cfg.ret rfl (rs := [.tmp 6]) rfl [.slice none 0 0] ⟨by kernel_rfl, trivial⟩ (fun w1 hp => ?_)
        have hx : rowsT takeP z most = ([], (takeP y).2) := hra.fail (by omega) c2
        rw [hx]
        exact ⟨none, OwnOk.none _, rfl, hp.ext, hp.own (b, _) (List.mem_of_getElem? (i := 1) rfl), (fun _ h => by cases h), (fun _ h => by cases h)⟩
      · have c2 : ((((takeP y).2).er) = (0 : Int)) := (bne_eq_false_iff_eq.1 c2r)
        refine Cfg.begL rfl ?_
        refine CfgL.pure 2 [(0, false, none), (0, false, some (.agg (pA (takeP y).1)))] none (Γ' := [(21, [], .agg (pA (takeP y).1)), (20, [], .slice (Own.a own) acc.length (Own.c own)), (19, [], .bool ((((takeP y).2).er) != (0 : Int))), (8, [], .pointer (some ⟨el, 0, none⟩)), (12, [], .int .i64 (i : Int)), (11, [], .int .i64 ((boundF z most 6).1 : Int)), (7, [], .slice (Own.a own) acc.length (Own.c own)), (0, [], .pointer (some ⟨b, 0, none⟩)), (2, [], .func (.func 21) #[] #[])]) (nd := (fun S => [(∀ w1, S w1 → (loadVar 35 ⟨el, 0, none⟩).run Try.prog w1 = .ok (.agg (pA (takeP y).1)) w1)])) (by kernel_rfl) (fun _ => by kernel_rfl) ⟨(fun w1 h => h.oload 0 rfl Try.underlying35 rfl (n := 4) (by kernel_rfl) rfl), trivial⟩ ?_
        refine CfgL.eff (o := _) rfl (by kernel_rfl) (by kernel_rfl) (Eff.buildAgg (vs := (pA (takeP y).1)) (n := 4) rfl (by kernel_rfl) Try.underlying32 (by kernel_rfl) (z := (.agg (pA PT0))) (by kernel_rfl) rfl (by decide) (by decide)) ?_
        rintro bk2 ⟨hbk2, nbk2⟩
        refine CfgL.eff (o := _) rfl (by kernel_rfl) (by kernel_rfl) (Eff.appendF rfl 4 32 Try.underlying32 (by kernel_rfl) (z := (.agg (pA PT0))) (by kernel_rfl) (by kernel_rfl) own (xs := (pcells acc)) hok (by kernel_rfl) (b2 := bk2) (off2 := 0) (m := 1) (c2 := 1) (by kernel_rfl) ((pA (takeP y).1).toList) rfl (all_pA _) [(bk2, .cells (pA (takeP y).1) 35 (0, 0)), (el, .cells (pA (takeP y).1) 35 (0, 0)), (b, .cells (inC ((takeP y).2)) 66 (0, 0))] [] (by rfl) (fun w1 h j v hj => by rw [Nat.zero_add]; exact h.ocell 0 rfl (by rw [← Array.getElem?_toList]; exact hj)) (by omega) (by omega)) ?_
        rintro o4 ko4
        refine CfgL.pure 1 [] (some [0, 2, 7, 11, 12]) (Γ' := [(7, [], .slice (Own.a o4) ((acc.length + 1)) (Own.c o4)), (12, [], .int .i64 (i : Int)), (11, [], .int .i64 ((boundF z most 6).1 : Int)), (0, [], .pointer (some ⟨b, 0, none⟩)), (2, [], .func (.func 21) #[] #[])]) (nd := (fun _ => [])) (by kernel_rfl) (fun _ => by kernel_rfl) trivial ?_
        refine CfgL.done rfl ?_
        refine Cfg.reg rfl [0, 2, 7, 11, 12] [] (Γ' := [(12, [], .int .i64 ((i : Int) + 1)), (7, [], .slice (Own.a o4) ((acc.length + 1)) (Own.c o4)), (11, [], .int .i64 ((boundF z most 6).1 : Int)), (0, [], .pointer (some ⟨b, 0, none⟩)), (2, [], .func (.func 21) #[] #[])]) (nd := (fun _ => [((-9223372036854775808 : Int) ≤ ((i : Int) + 1) ∧ ((i : Int) + 1) ≤ 9223372036854775807)])) (fun _ => by kernel_rfl) ⟨(by omega), trivial⟩ ?_
        have hra2 := hra.next (by omega) c2
        refine Cfg.setO (O' := ([(bk2, .cells (pA (takeP y).1) 35 (0, 0)), (el, .cells (pA (takeP y).1) 35 (0, 0)), (b, .cells (inC ((takeP y).2)) 66 (0, 0))] ++ (Own.o 35 (pcells (acc ++ [(takeP y).1])) o4 ++ []))) (congrArg (fun (xq : List Value) => (([(bk2, .cells (pA (takeP y).1) 35 (0, 0)), (el, .cells (pA (takeP y).1) 35 (0, 0)), (b, .cells (inC ((takeP y).2)) 66 (0, 0))] ++ (Own.o 35 xq o4 ++ [])) : List (Nat × Obj))) (by rw [pcells_snoc])) ?_
        refine Cfg.setG (Γ' := [(12, [], .int .i64 ((i : Int) + 1)), (7, [], .slice (Own.a o4) ((acc ++ [(takeP y).1]).length) (Own.c o4)), (11, [], .int .i64 ((boundF z most 6).1 : Int)), (0, [], .pointer (some ⟨b, 0, none⟩)), (2, [], .func (.func 21) #[] #[])]) (congrArg (fun (xq : Nat) => ([(12, [], .int .i64 ((i : Int) + 1)), (7, [], .slice (Own.a o4) xq (Own.c o4)), (11, [], .int .i64 ((boundF z most 6).1 : Int)), (0, [], .pointer (some ⟨b, 0, none⟩)), (2, [], .func (.func 21) #[] #[])] : Env)) (by rw [List.length_append]; rfl)) ?_
        refine Cfg.again rfl (i + 1, (takeP y).2, acc ++ [(takeP y).1], o4) ⟨hra2, by rw [← pcells_snoc, List.length_append]; exact ko4⟩ (by show (boundF z most 6).1 - (i + 1) < (boundF z most 6).1 - i; omega) (Conv.mk (by kernel_rfl)) (.cons _ (.cons _ (.cons_cons _ (List.Sublist.refl _))))
    · have c1 : (¬ ((i : Int) < ((boundF z most 6).1 : Int))) := (of_decide_eq_false c1r)
      refine Cfg.reg rfl [6] [] (Γ' := [(6, [], .slice (Own.a own) acc.length (Own.c own))]) (nd := (fun _ => [])) (fun _ => by kernel_rfl) trivial ?_
      refine Cfg.ret rfl (rs := [.tmp 6]) rfl [.slice (Own.a own) acc.length (Own.c own)] ⟨by kernel_rfl, trivial⟩ (fun w1 hp => ?_)
      have hi2 : i = (boundF z most 6).1 := by omega
      have hx : rowsT takeP z most = (acc, y) := (hi2 ▸ hra).done
      rw [hx]
      refine ⟨own, hok, rfl, hp.ext, hp.own (b, _) (List.mem_append_left _ (List.mem_of_getElem? (i := 0) rfl)), fun x hx => hp.own x (List.mem_append_right _ (List.mem_append_left _ hx)), fun x hx => ?_⟩
      rcases hp.mine x (List.mem_append_right _ (List.mem_append_left _ hx)) with h1 | h1
      · exact h1
      · exfalso
        have hd := hp.dist
        rw [List.map_append] at hd
        refine (List.nodup_append.1 hd).2.2 b (List.mem_map.2 ⟨(b, _), List.mem_of_getElem? (i := 0) rfl, rfl⟩) x.1 (List.mem_map.2 ⟨x, List.mem_append_left _ hx, rfl⟩) ?_
        exact (List.mem_singleton.1 h1).symm

set_option maxRecDepth 100000 in
theorem dApply (a : ByteArray) (l : List UInt8) (w : World) (ha : a.size ≤ 10000000) :
    Calls Try.prog 11 #[.string a, .string (tx l)] w fun e w' => e = .returned (.tuple #[.string (tx (applyF a l).1), .int .i64 (applyF a l).2]) ∧ Ext [] w w' := by
  have hrl := aRow_len l
  have hfr := fourF_lt ⟨0, l⟩
  have hmo := fourF_lt (fourF ⟨0, l⟩).2
  have hfr2 : aFrom l < 4294967296 := hfr
  have hmo2 : aMost l < 4294967296 := hmo
  refine enter (vs := [.string a, .string (tx l)]) [] [] [] Try.func11 rfl (by kernel_rfl) (HP.start w) ?_
  refine Cfg.reg rfl [0, 1] [] (Γ' := [(0, [], .string a), (1, [], .string (tx l))]) (nd := (fun _ => [])) (fun _ => by kernel_rfl) trivial ?_
  refine Cfg.begL rfl ?_
  refine CfgL.pure 1 [] none (Γ' := [(17, [], .string (tx l)), (0, [], .string a), (1, [], .string (tx l))]) (nd := (fun _ => [])) (by kernel_rfl) (fun _ => by kernel_rfl) trivial ?_
  refine CfgL.eff (o := _) rfl (by kernel_rfl) (by kernel_rfl) (Eff.callN (vs := [.string (tx l)]) (fun b : Nat => .pointer (some ⟨b, 0, none⟩)) (fun b => b) (fun _ => .cells (inC ⟨0, l⟩) 66 (0, 0)) (fun _ => True) rfl Try.func18 rfl rfl (by kernel_rfl) (fun w1 _ => wOf l w1)) ?_
  rintro q ⟨-, hq, nq⟩
  refine CfgL.pure 1 [] (some [0, 6]) (Γ' := [(6, [], .pointer (some ⟨q, 0, none⟩)), (0, [], .string a)]) (nd := (fun _ => [])) (by kernel_rfl) (fun _ => by kernel_rfl) trivial ?_
  refine CfgL.done rfl ?_
  refine Cfg.begL rfl ?_
  refine CfgL.pure 1 [] none (Γ' := [(19, [], .pointer (some ⟨q, 0, none⟩)), (6, [], .pointer (some ⟨q, 0, none⟩)), (0, [], .string a)]) (nd := (fun _ => [])) (by kernel_rfl) (fun _ => by kernel_rfl) trivial ?_
  refine CfgL.eff (o := _) rfl (by kernel_rfl) (by kernel_rfl) (Eff.callM (vs := [.pointer (some ⟨q, 0, none⟩)]) (.int .u32 ((aFrom l) : Int)) 0 (b := q) (ob := .cells (inC (⟨0, l⟩)) 66 (0, 0)) (.cells (inC (fourF ⟨0, l⟩).2) 66 (0, 0)) rfl Try.func19 rfl rfl (by kernel_rfl) (by kernel_rfl) (fun w1 h => wTFour q ⟨0, l⟩ w1 (h.own (q, _) (List.mem_of_getElem? (i := 0) rfl)))) ?_
  rintro ⟨⟩ -
  refine CfgL.pure 1 [] (some [0, 6, 7]) (Γ' := [(7, [], .int .u32 ((aFrom l) : Int)), (6, [], .pointer (some ⟨q, 0, none⟩)), (0, [], .string a)]) (nd := (fun _ => [])) (by kernel_rfl) (fun _ => by kernel_rfl) trivial ?_
  refine CfgL.done rfl ?_
  refine Cfg.begL rfl ?_
  refine CfgL.pure 1 [] none (Γ' := [(21, [], .pointer (some ⟨q, 0, none⟩)), (7, [], .int .u32 ((aFrom l) : Int)), (6, [], .pointer (some ⟨q, 0, none⟩)), (0, [], .string a)]) (nd := (fun _ => [])) (by kernel_rfl) (fun _ => by kernel_rfl) trivial ?_
  refine CfgL.eff (o := _) rfl (by kernel_rfl) (by kernel_rfl) (Eff.callM (vs := [.pointer (some ⟨q, 0, none⟩)]) (.int .u32 ((aMost l) : Int)) 0 (b := q) (ob := .cells (inC ((fourF ⟨0, l⟩).2)) 66 (0, 0)) (.cells (inC (aZ l)) 66 (0, 0)) rfl Try.func19 rfl rfl (by kernel_rfl) (by kernel_rfl) (fun w1 h => wTFour q (fourF ⟨0, l⟩).2 w1 (h.own (q, _) (List.mem_of_getElem? (i := 0) rfl)))) ?_
  rintro ⟨⟩ -
  refine CfgL.pure 1 [] (some [0, 6, 7, 8]) (Γ' := [(8, [], .int .u32 ((aMost l) : Int)), (7, [], .int .u32 ((aFrom l) : Int)), (6, [], .pointer (some ⟨q, 0, none⟩)), (0, [], .string a)]) (nd := (fun _ => [])) (by kernel_rfl) (fun _ => by kernel_rfl) trivial ?_
  refine CfgL.done rfl ?_
  refine Cfg.begL rfl ?_
  refine CfgL.pure 1 [] none (Γ' := [(23, [], .pointer (some ⟨q, 0, none⟩)), (8, [], .int .u32 ((aMost l) : Int)), (7, [], .int .u32 ((aFrom l) : Int)), (6, [], .pointer (some ⟨q, 0, none⟩)), (0, [], .string a)]) (nd := (fun _ => [])) (by kernel_rfl) (fun _ => by kernel_rfl) trivial ?_
  refine CfgL.eff (o := _) rfl (by kernel_rfl) (by kernel_rfl) (Eff.callMO (vs := [.pointer (some ⟨q, 0, none⟩), .int .i64 64, .func (.func 21) #[] #[]]) 35 4 (aRow l).1.length (pcells (aRow l).1) [] [] [] (b := q) (ob := .cells (inC (aZ l)) 66 (0, 0)) (.cells (inC (aRow l).2) 66 (0, 0)) (by rfl) rfl Try.func20 rfl rfl (by kernel_rfl) (fun w1 h => wRowsP q (aZ l) 64 w1 (h.own (q, _) (List.mem_of_getElem? (i := 0) rfl)) (by decide))) ?_
  rintro ow kow
  refine CfgL.pure 1 [] (some [0, 6, 7, 8, 9]) (Γ' := [(9, [], .slice (Own.a ow) ((aRow l).1.length) (Own.c ow)), (8, [], .int .u32 ((aMost l) : Int)), (7, [], .int .u32 ((aFrom l) : Int)), (6, [], .pointer (some ⟨q, 0, none⟩)), (0, [], .string a)]) (nd := (fun _ => [])) (by kernel_rfl) (fun _ => by kernel_rfl) trivial ?_
  refine CfgL.done rfl ?_
  refine Cfg.begL rfl ?_
  refine CfgL.pure 1 [] none (Γ' := [(25, [], .pointer (some ⟨q, 0, none⟩)), (9, [], .slice (Own.a ow) ((aRow l).1.length) (Own.c ow)), (8, [], .int .u32 ((aMost l) : Int)), (7, [], .int .u32 ((aFrom l) : Int)), (6, [], .pointer (some ⟨q, 0, none⟩)), (0, [], .string a)]) (nd := (fun _ => [])) (by kernel_rfl) (fun _ => by kernel_rfl) trivial ?_
  refine CfgL.eff (o := _) rfl (by kernel_rfl) (by kernel_rfl) (Eff.callA (vs := [.pointer (some ⟨q, 0, none⟩)]) (.int .i64 (aEnd l)) rfl Try.func22 rfl rfl (by kernel_rfl) (fun w1 h => wEnd q (aRow l).2 w1 (h.own (q, _) (List.mem_of_getElem? (i := 0) rfl)))) ?_
  rintro ⟨⟩ -
  refine CfgL.pure 1 [] (some [0, 7, 8, 9, 10]) (Γ' := [(10, [], .int .i64 (aEnd l)), (9, [], .slice (Own.a ow) ((aRow l).1.length) (Own.c ow)), (8, [], .int .u32 ((aMost l) : Int)), (7, [], .int .u32 ((aFrom l) : Int)), (0, [], .string a)]) (nd := (fun _ => [])) (by kernel_rfl) (fun _ => by kernel_rfl) trivial ?_
  refine CfgL.done rfl ?_
  refine Cfg.reg rfl [0, 7, 8, 9, 10, 28] [] (Γ' := [(28, [], .bool ((aEnd l) != (0 : Int))), (10, [], .int .i64 (aEnd l)), (9, [], .slice (Own.a ow) ((aRow l).1.length) (Own.c ow)), (8, [], .int .u32 ((aMost l) : Int)), (7, [], .int .u32 ((aFrom l) : Int)), (0, [], .string a)]) (nd := (fun _ => [])) (fun _ => by kernel_rfl) trivial ?_
  refine Cfg.cond rfl (b := ((aEnd l) != (0 : Int))) (by kernel_rfl) (fun c1r => ?_) (fun c1r => ?_)
  · have c1 : ((aEnd l) ≠ (0 : Int)) := (bne_iff_ne.1 c1r)
    refine Cfg.reg rfl [4, 5] [] (Γ' := [(5, [], .int .i64 (aEnd l)), (4, [], .string ⟨#[]⟩)]) (nd := (fun _ => [])) (fun _ => by kernel_rfl) trivial ?_
    refine Cfg.ret rfl (rs := [.tmp 4, .tmp 5]) rfl [.string ⟨#[]⟩, .int .i64 (aEnd l)] ⟨by kernel_rfl, by kernel_rfl, trivial⟩ (fun w1 hp => ?_)
    rw [applyF_end (show aEnd l ≠ 0 from c1)]
    exact ⟨rfl, hp.ext⟩
  · have c1 : ((aEnd l) = (0 : Int)) := (bne_eq_false_iff_eq.1 c1r)
    refine Cfg.reg rfl [0, 8, 9, 35] [] (Γ' := [(35, [], .bool (((a.size : Int) % 18446744073709551616) != ((aFrom l) : Int))), (9, [], .slice (Own.a ow) ((aRow l).1.length) (Own.c ow)), (8, [], .int .u32 ((aMost l) : Int)), (0, [], .string a)]) (nd := (fun _ => [((0 : Int) ≤ ((aFrom l) : Int) ∧ ((aFrom l) : Int) ≤ 18446744073709551615)])) (fun _ => by kernel_rfl) ⟨(by omega), trivial⟩ ?_
    refine Cfg.cond rfl (b := (((a.size : Int) % 18446744073709551616) != ((aFrom l) : Int))) (by kernel_rfl) (fun c2r => ?_) (fun c2r => ?_)
    · have c2 : (((a.size : Int) % 18446744073709551616) ≠ ((aFrom l) : Int)) := (bne_iff_ne.1 c2r)
      refine Cfg.reg rfl [4, 5] [] (Γ' := [(5, [], .int .i64 31), (4, [], .string ⟨#[]⟩)]) (nd := (fun _ => [])) (fun _ => by kernel_rfl) trivial ?_
      refine Cfg.ret rfl (rs := [.tmp 4, .tmp 5]) rfl [.string ⟨#[]⟩, .int .i64 31] ⟨by kernel_rfl, by kernel_rfl, trivial⟩ (fun w1 hp => ?_)
      rw [applyF_base (show ¬ aEnd l ≠ 0 by omega) (by omega)]
      exact ⟨rfl, hp.ext⟩
    · have c2 : (((a.size : Int) % 18446744073709551616) = ((aFrom l) : Int)) := (bne_eq_false_iff_eq.1 c2r)
      refine Cfg.begL rfl ?_
      refine CfgL.eff (o := _) rfl (by kernel_rfl) (by kernel_rfl) (Eff.allocB 5 [(q, .cells (inC ((aRow l).2)) 66 (0, 0))] ([] ++ (Own.o 35 (pcells (aRow l).1) ow ++ [])) rfl rfl (by kernel_rfl)) ?_
      rintro b ⟨hb, nb⟩
      refine CfgL.done rfl ?_
      refine Conv.cfg (Γ' := [(11, [], .pointer (some ⟨b, 0, none⟩)), (9, [], .slice (Own.a ow) ((aRow l).1.length) (Own.c ow)), (8, [], .int .u32 ((aMost l) : Int)), (0, [], .string a)]) (Conv.mk (by kernel_rfl)) ?_
      refine Cfg.reg rfl [0, 8, 11, 36, 37, 38] [] (Γ' := [(38, [], .int .i64 0), (37, [], .int .i64 ((aRow l).1.length : Int)), (36, [], .slice (Own.a ow) ((aRow l).1.length) (Own.c ow)), (11, [], .pointer (some ⟨b, 0, none⟩)), (8, [], .int .u32 ((aMost l) : Int)), (0, [], .string a)]) (nd := (fun _ => [])) (fun _ => by kernel_rfl) trivial ?_
      refine Cfg.loop rfl (ι := Nat × List UInt8 × Bd) (fun (x : Nat × List UInt8 × Bd) => match x with | (i, acc, B) => [(38, [], .int .i64 (i : Int)), (37, [], .int .i64 ((aRow l).1.length : Int)), (36, [], .slice (Own.a ow) ((aRow l).1.length) (Own.c ow)), (11, [], .pointer (some ⟨b, 0, none⟩)), (8, [], .int .u32 ((aMost l) : Int)), (0, [], .string a)]) (fun (x : Nat × List UInt8 × Bd) => match x with | (i, acc, B) => ([] ++ (bl 54 5 b acc B ++ (Own.o 35 (pcells (aRow l).1) ow ++ [])))) (fun (x : Nat × List UInt8 × Bd) => match x with | (i, acc, B) => (i ≤ (aRow l).1.length) ∧ (applyP a ((aRow l).1.drop i) acc = applyP a (aRow l).1 []) ∧ (acc.length ≤ 32768) ∧ (BdOk b acc B)) (fun (x : Nat × List UInt8 × Bd) => match x with | (i, acc, B) => (aRow l).1.length - i) (0, [], bd0) ?_ (Conv.mk (by kernel_rfl)) (.cons _ (List.Sublist.trans (List.Sublist.append (List.Sublist.refl _) (List.Sublist.refl _)) (List.sublist_append_right _ _))) ?_
      · exact ⟨Nat.zero_le _, rfl, Nat.zero_le _, (bd0_ok b)⟩
      · rintro ⟨i, acc, B⟩ ⟨hi, hap, hacc, hB⟩
        refine Cfg.reg rfl [0, 8, 11, 36, 37, 38, 39] [] (Γ' := [(39, [], .bool (decide ((i : Int) < ((aRow l).1.length : Int)))), (38, [], .int .i64 (i : Int)), (37, [], .int .i64 ((aRow l).1.length : Int)), (36, [], .slice (Own.a ow) ((aRow l).1.length) (Own.c ow)), (11, [], .pointer (some ⟨b, 0, none⟩)), (8, [], .int .u32 ((aMost l) : Int)), (0, [], .string a)]) (nd := (fun _ => [])) (fun _ => by kernel_rfl) trivial ?_
        refine Cfg.cond rfl (b := (decide ((i : Int) < ((aRow l).1.length : Int)))) (by kernel_rfl) (fun c3r => ?_) (fun c3r => ?_)
        · have c3 : ((i : Int) < ((aRow l).1.length : Int)) := (of_decide_eq_true c3r)
          obtain ⟨sb, off, cs, te, fre, hla, hmem, hcs⟩ := own_ins4 (e := 35) (ps := (aRow l).1) kow (by omega)
          have hel : PtOk 32768 ((aRow l).1.getD i PT0) := aRow_ok l _ (getD_mem (by omega))
          have hepat := hel.1.pat
          have hen := hel.1.n
          have hek := hel.1.kind
          have hele := piece_le a hel
          refine Cfg.setG (Γ' := [(39, [], .bool (decide ((i : Int) < ((aRow l).1.length : Int)))), (38, [], .int .i64 (i : Int)), (37, [], .int .i64 ((aRow l).1.length : Int)), (36, [], .slice (some ⟨sb, off, none⟩) (aRow l).1.length (Own.c ow)), (11, [], .pointer (some ⟨b, 0, none⟩)), (8, [], .int .u32 ((aMost l) : Int)), (0, [], .string a)]) (congrArg (fun (xq : Value) => ([(39, [], .bool (decide ((i : Int) < ((aRow l).1.length : Int)))), (38, [], .int .i64 (i : Int)), (37, [], .int .i64 ((aRow l).1.length : Int)), (36, [], xq), (11, [], .pointer (some ⟨b, 0, none⟩)), (8, [], .int .u32 ((aMost l) : Int)), (0, [], .string a)] : Env)) (congrArg (fun z => Value.slice z (aRow l).1.length (Own.c ow)) hla)) ?_
          refine Cfg.begL rfl ?_
          refine CfgL.pure 2 [(0, false, none), (0, false, some (.agg (pA ((aRow l).1.getD i PT0))))] none (Γ' := [(41, [], .agg (pA ((aRow l).1.getD i PT0))), (40, [], .pointer (some ⟨sb, (addO off (i * 4)), none⟩)), (39, [], .bool (decide ((i : Int) < ((aRow l).1.length : Int)))), (38, [], .int .i64 (i : Int)), (37, [], .int .i64 ((aRow l).1.length : Int)), (36, [], .slice (some ⟨sb, off, none⟩) (aRow l).1.length (Own.c ow)), (11, [], .pointer (some ⟨b, 0, none⟩)), (8, [], .int .u32 ((aMost l) : Int)), (0, [], .string a)]) (nd := (fun S => [(0 ≤ (i : Int) ∧ (i : Int) < ((aRow l).1.length : Int)), (∀ w1, S w1 → (loadVar 35 ⟨sb, (addO off (i * 4)), none⟩).run Try.prog w1 = .ok (.agg (pA ((aRow l).1.getD i PT0))) w1)])) (by kernel_rfl) (fun _ => by kernel_rfl) ⟨(by omega), (fun w1 h => load_part Try.underlying35 rfl (by kernel_rfl) (fun j hj => by rw [addO_eq]; exact (cell_cells (h.own (sb, _) (List.mem_append_right _ (List.mem_append_right _ (List.mem_append_left _ hmem))))).trans ((congrArg (fun z => cs[z]?) (show off + i * 4 + j = off + (i * 4 + j) by omega)).trans ((hcs (i * 4 + j) (by omega)).trans (by simp only [show (i * 4 + j) / 4 = i by omega, show (i * 4 + j) % 4 = j by omega]))))), trivial⟩ ?_
          refine CfgL.eff (o := _) rfl (by kernel_rfl) (by kernel_rfl) (Eff.alloc (z := (.agg (pA PT0))) rfl (by kernel_rfl)) ?_
          rintro pt ⟨hpt, npt⟩
          refine CfgL.eff (o := _) rfl (by kernel_rfl) (by kernel_rfl) (Eff.storeN (b := pt) (off := 0) (vs := (pA ((aRow l).1.getD i PT0))) (n := 4) rfl (by kernel_rfl) (by kernel_rfl) (by kernel_rfl) rfl (all_pA _) 0 (cs := (pA PT0)) (e := 35) (by kernel_rfl) (by rw [pA_size]; omega)) ?_
          rintro ⟨⟩ -
          refine CfgL.setO (O' := ([(pt, .cells (pA ((aRow l).1.getD i PT0)) 35 (0, 0))] ++ (bl 54 5 b acc B ++ (Own.o 35 (pcells (aRow l).1) ow ++ [])))) (congrArg (fun (xq : Array Value) => (([(pt, .cells xq 35 (0, 0))] ++ (bl 54 5 b acc B ++ (Own.o 35 (pcells (aRow l).1) ow ++ []))) : List (Nat × Obj))) ((show spl (pA PT0) 0 ((pA ((aRow l).1.getD i PT0))).toList = (pA ((aRow l).1.getD i PT0)) from spl_all rfl))) ?_
          refine CfgL.done rfl ?_
          refine Conv.cfg (Γ' := [(13, [], .pointer (some ⟨pt, 0, none⟩)), (38, [], .int .i64 (i : Int)), (37, [], .int .i64 ((aRow l).1.length : Int)), (36, [], .slice (some ⟨sb, off, none⟩) (aRow l).1.length (Own.c ow)), (11, [], .pointer (some ⟨b, 0, none⟩)), (8, [], .int .u32 ((aMost l) : Int)), (0, [], .string a)]) (Conv.mk (by kernel_rfl)) ?_
          refine Cfg.reg rfl [0, 8, 11, 13, 14, 36, 37, 38] [(0, false, none), (0, false, some (.string ((aRow l).1.getD i PT0).text))] (Γ' := [(14, [], .string ((aRow l).1.getD i PT0).text), (13, [], .pointer (some ⟨pt, 0, none⟩)), (38, [], .int .i64 (i : Int)), (37, [], .int .i64 ((aRow l).1.length : Int)), (36, [], .slice (some ⟨sb, off, none⟩) (aRow l).1.length (Own.c ow)), (11, [], .pointer (some ⟨b, 0, none⟩)), (8, [], .int .u32 ((aMost l) : Int)), (0, [], .string a)]) (nd := (fun S => [(∀ w1, S w1 → w1.cell? ⟨pt, 3, none⟩ = some (.string ((aRow l).1.getD i PT0).text))])) (fun _ => by kernel_rfl) ⟨(fun w1 h => h.ocell 0 rfl rfl), trivial⟩ ?_
          refine Cfg.reg rfl [0, 8, 11, 13, 14, 36, 37, 38, 46] [(0, false, none), (0, false, some (.int .u8 (((aRow l).1.getD i PT0).kind : Int)))] (Γ' := [(46, [], .bool ((((aRow l).1.getD i PT0).kind : Int) == (0 : Int))), (14, [], .string ((aRow l).1.getD i PT0).text), (13, [], .pointer (some ⟨pt, 0, none⟩)), (38, [], .int .i64 (i : Int)), (37, [], .int .i64 ((aRow l).1.length : Int)), (36, [], .slice (some ⟨sb, off, none⟩) (aRow l).1.length (Own.c ow)), (11, [], .pointer (some ⟨b, 0, none⟩)), (8, [], .int .u32 ((aMost l) : Int)), (0, [], .string a)]) (nd := (fun S => [(∀ w1, S w1 → w1.cell? ⟨pt, 0, none⟩ = some (.int .u8 (((aRow l).1.getD i PT0).kind : Int)))])) (fun _ => by kernel_rfl) ⟨(fun w1 h => h.ocell 0 rfl rfl), trivial⟩ ?_
          refine Cfg.cond rfl (b := ((((aRow l).1.getD i PT0).kind : Int) == (0 : Int))) (by kernel_rfl) (fun c4r => ?_) (fun c4r => ?_)
          · have c4 : ((((aRow l).1.getD i PT0).kind : Int) = (0 : Int)) := (beq_iff_eq.1 c4r)
            refine Cfg.regD rfl (by kernel_rfl) [0, 8, 11, 15, 16, 36, 37, 38] [(0, false, none), (0, false, some (.int .u32 (((aRow l).1.getD i PT0).pat : Int))), (0, false, none), (0, false, none), (0, false, some (.int .u32 (((aRow l).1.getD i PT0).pat : Int))), (0, false, none), (0, false, none), (0, false, some (.int .u32 (((aRow l).1.getD i PT0).n : Int)))] (Γ' := [(16, [], .int .u64 (((((aRow l).1.getD i PT0).pat : Int) + (((aRow l).1.getD i PT0).n : Int)) % 18446744073709551616)), (15, [], .int .u64 (((aRow l).1.getD i PT0).pat : Int)), (38, [], .int .i64 (i : Int)), (37, [], .int .i64 ((aRow l).1.length : Int)), (36, [], .slice (some ⟨sb, off, none⟩) (aRow l).1.length (Own.c ow)), (11, [], .pointer (some ⟨b, 0, none⟩)), (8, [], .int .u32 ((aMost l) : Int)), (0, [], .string a)]) (nd := (fun S => [(∀ w1, S w1 → w1.cell? ⟨pt, 1, none⟩ = some (.int .u32 (((aRow l).1.getD i PT0).pat : Int))), ((0 : Int) ≤ (((aRow l).1.getD i PT0).pat : Int) ∧ (((aRow l).1.getD i PT0).pat : Int) ≤ 18446744073709551615), (∀ w1, S w1 → w1.cell? ⟨pt, 1, none⟩ = some (.int .u32 (((aRow l).1.getD i PT0).pat : Int))), ((0 : Int) ≤ (((aRow l).1.getD i PT0).pat : Int) ∧ (((aRow l).1.getD i PT0).pat : Int) ≤ 18446744073709551615), (∀ w1, S w1 → w1.cell? ⟨pt, 2, none⟩ = some (.int .u32 (((aRow l).1.getD i PT0).n : Int))), ((0 : Int) ≤ (((aRow l).1.getD i PT0).n : Int) ∧ (((aRow l).1.getD i PT0).n : Int) ≤ 18446744073709551615)])) (by kernel_rfl) (by kernel_rfl) (fun _ => by kernel_rfl) ⟨(fun w1 h => h.ocell 0 rfl rfl), (by omega), (fun w1 h => h.ocell 0 rfl rfl), (by omega), (fun w1 h => h.ocell 0 rfl rfl), (by omega), trivial⟩ ?_
            refine Cfg.reg rfl [0, 8, 11, 15, 16, 36, 37, 38, 61] [] (Γ' := [(61, [], .bool (decide ((((((aRow l).1.getD i PT0).pat : Int) + (((aRow l).1.getD i PT0).n : Int)) % 18446744073709551616) > ((a.size : Int) % 18446744073709551616)))), (16, [], .int .u64 (((((aRow l).1.getD i PT0).pat : Int) + (((aRow l).1.getD i PT0).n : Int)) % 18446744073709551616)), (15, [], .int .u64 (((aRow l).1.getD i PT0).pat : Int)), (38, [], .int .i64 (i : Int)), (37, [], .int .i64 ((aRow l).1.length : Int)), (36, [], .slice (some ⟨sb, off, none⟩) (aRow l).1.length (Own.c ow)), (11, [], .pointer (some ⟨b, 0, none⟩)), (8, [], .int .u32 ((aMost l) : Int)), (0, [], .string a)]) (nd := (fun _ => [])) (fun _ => by kernel_rfl) trivial ?_
            refine Cfg.cond rfl (b := (decide ((((((aRow l).1.getD i PT0).pat : Int) + (((aRow l).1.getD i PT0).n : Int)) % 18446744073709551616) > ((a.size : Int) % 18446744073709551616)))) (by kernel_rfl) (fun c5r => ?_) (fun c5r => ?_)
            · have c5 : ((((((aRow l).1.getD i PT0).pat : Int) + (((aRow l).1.getD i PT0).n : Int)) % 18446744073709551616) > ((a.size : Int) % 18446744073709551616)) := (of_decide_eq_true c5r)
              refine Cfg.reg rfl [4, 5] [] (Γ' := [(5, [], .int .i64 31), (4, [], .string ⟨#[]⟩)]) (nd := (fun _ => [])) (fun _ => by kernel_rfl) trivial ?_
              refine Cfg.ret rfl (rs := [.tmp 4, .tmp 5]) rfl [.string ⟨#[]⟩, .int .i64 31] ⟨by kernel_rfl, by kernel_rfl, trivial⟩ (fun w1 hp => ?_)
              rw [applyF_bad (show ¬ aEnd l ≠ 0 by omega) (by omega) (hap ▸ applyP_far a (show i < (aRow l).1.length by omega) acc (by omega) (by omega)) (by decide)]
              exact ⟨rfl, hp.ext⟩
            · have c5 : (¬ ((((((aRow l).1.getD i PT0).pat : Int) + (((aRow l).1.getD i PT0).n : Int)) % 18446744073709551616) > ((a.size : Int) % 18446744073709551616))) := (of_decide_eq_false c5r)
              refine Cfg.reg rfl [0, 8, 11, 14, 36, 37, 38] [] (Γ' := [(14, [], .string (a.extract ((((aRow l).1.getD i PT0).pat)) (((((((aRow l).1.getD i PT0).pat : Int) + (((aRow l).1.getD i PT0).n : Int)) % 18446744073709551616)).toNat))), (38, [], .int .i64 (i : Int)), (37, [], .int .i64 ((aRow l).1.length : Int)), (36, [], .slice (some ⟨sb, off, none⟩) (aRow l).1.length (Own.c ow)), (11, [], .pointer (some ⟨b, 0, none⟩)), (8, [], .int .u32 ((aMost l) : Int)), (0, [], .string a)]) (nd := (fun _ => [(0 ≤ (((aRow l).1.getD i PT0).pat : Int)), (0 ≤ (((((aRow l).1.getD i PT0).pat : Int) + (((aRow l).1.getD i PT0).n : Int)) % 18446744073709551616)), ((((aRow l).1.getD i PT0).pat) ≤ ((((((aRow l).1.getD i PT0).pat : Int) + (((aRow l).1.getD i PT0).n : Int)) % 18446744073709551616)).toNat ∧ ((((((aRow l).1.getD i PT0).pat : Int) + (((aRow l).1.getD i PT0).n : Int)) % 18446744073709551616)).toNat ≤ a.size)])) (fun _ => by kernel_rfl) ⟨(by omega), (by omega), (by omega), trivial⟩ ?_
              refine Cfg.setG (Γ' := [(14, [], .string (pieceF a ((aRow l).1.getD i PT0))), (38, [], .int .i64 (i : Int)), (37, [], .int .i64 ((aRow l).1.length : Int)), (36, [], .slice (some ⟨sb, off, none⟩) (aRow l).1.length (Own.c ow)), (11, [], .pointer (some ⟨b, 0, none⟩)), (8, [], .int .u32 ((aMost l) : Int)), (0, [], .string a)]) (congrArg (fun (xq : ByteArray) => ([(14, [], .string xq), (38, [], .int .i64 (i : Int)), (37, [], .int .i64 ((aRow l).1.length : Int)), (36, [], .slice (some ⟨sb, off, none⟩) (aRow l).1.length (Own.c ow)), (11, [], .pointer (some ⟨b, 0, none⟩)), (8, [], .int .u32 ((aMost l) : Int)), (0, [], .string a)] : Env)) (by unfold pieceF; rw [if_pos (show ((aRow l).1.getD i PT0).kind = 0 by omega), show (((((aRow l).1.getD i PT0).pat : Int) + (((aRow l).1.getD i PT0).n : Int)) % 18446744073709551616).toNat = ((aRow l).1.getD i PT0).pat + ((aRow l).1.getD i PT0).n by omega])) ?_
              refine Cfg.begL rfl ?_
              refine CfgL.eff (o := _) rfl (by kernel_rfl) (by kernel_rfl) (Eff.callA (vs := [.pointer (some ⟨b, 0, none⟩)]) (.int .i64 (acc.length : Int)) rfl Try.func23 rfl rfl (by kernel_rfl) (fun w1 h => bLen b acc B w1 (fun e he => h.own e (List.mem_append_right _ (List.mem_append_left _ he))))) ?_
              rintro ⟨⟩ -
              refine CfgL.pure 4 [] (some [0, 8, 11, 14, 36, 37, 38, 70]) (Γ' := [(70, [], .bool (decide (((acc.length : Int) + ((pieceF a ((aRow l).1.getD i PT0)).size : Int)) > (32768 : Int)))), (14, [], .string (pieceF a ((aRow l).1.getD i PT0))), (38, [], .int .i64 (i : Int)), (37, [], .int .i64 ((aRow l).1.length : Int)), (36, [], .slice (some ⟨sb, off, none⟩) (aRow l).1.length (Own.c ow)), (11, [], .pointer (some ⟨b, 0, none⟩)), (8, [], .int .u32 ((aMost l) : Int)), (0, [], .string a)]) (nd := (fun _ => [((-9223372036854775808 : Int) ≤ ((acc.length : Int) + ((pieceF a ((aRow l).1.getD i PT0)).size : Int)) ∧ ((acc.length : Int) + ((pieceF a ((aRow l).1.getD i PT0)).size : Int)) ≤ 9223372036854775807)])) (by kernel_rfl) (fun _ => by kernel_rfl) ⟨(by omega), trivial⟩ ?_
              refine CfgL.done rfl ?_
              refine Cfg.cond rfl (b := (decide (((acc.length : Int) + ((pieceF a ((aRow l).1.getD i PT0)).size : Int)) > (32768 : Int)))) (by kernel_rfl) (fun c6r => ?_) (fun c6r => ?_)
              · have c6 : (((acc.length : Int) + ((pieceF a ((aRow l).1.getD i PT0)).size : Int)) > (32768 : Int)) := (of_decide_eq_true c6r)
                refine Cfg.reg rfl [4, 5] [] (Γ' := [(5, [], .int .i64 5), (4, [], .string ⟨#[]⟩)]) (nd := (fun _ => [])) (fun _ => by kernel_rfl) trivial ?_
                refine Cfg.ret rfl (rs := [.tmp 4, .tmp 5]) rfl [.string ⟨#[]⟩, .int .i64 5] ⟨by kernel_rfl, by kernel_rfl, trivial⟩ (fun w1 hp => ?_)
                rw [applyF_bad (show ¬ aEnd l ≠ 0 by omega) (by omega) (hap ▸ applyP_long a (show i < (aRow l).1.length by omega) acc (by omega) (by omega)) (by decide)]
                exact ⟨rfl, hp.ext⟩
              · have c6 : (¬ (((acc.length : Int) + ((pieceF a ((aRow l).1.getD i PT0)).size : Int)) > (32768 : Int))) := (of_decide_eq_false c6r)
                refine Cfg.begL rfl ?_
                refine CfgL.pure 1 [] none (Γ' := [(71, [], .string (pieceF a ((aRow l).1.getD i PT0))), (70, [], .bool (decide (((acc.length : Int) + ((pieceF a ((aRow l).1.getD i PT0)).size : Int)) > (32768 : Int)))), (14, [], .string (pieceF a ((aRow l).1.getD i PT0))), (38, [], .int .i64 (i : Int)), (37, [], .int .i64 ((aRow l).1.length : Int)), (36, [], .slice (some ⟨sb, off, none⟩) (aRow l).1.length (Own.c ow)), (11, [], .pointer (some ⟨b, 0, none⟩)), (8, [], .int .u32 ((aMost l) : Int)), (0, [], .string a)]) (nd := (fun _ => [])) (by kernel_rfl) (fun _ => by kernel_rfl) trivial ?_
                refine CfgL.eff (o := _) rfl (by kernel_rfl) (by kernel_rfl) (Eff.callH (vs := [.pointer (some ⟨b, 0, none⟩), .string (pieceF a ((aRow l).1.getD i PT0))]) (fun _ => (.tuple #[.int .i64 ((pieceF a ((aRow l).1.getD i PT0)).size : Int), .nilIface] : Value)) (bl 54 5 b acc B) (fun B1 => bl 54 5 b (acc ++ (pieceF a ((aRow l).1.getD i PT0)).data.toList) B1) (fun B1 => BdOk b (acc ++ (pieceF a ((aRow l).1.getD i PT0)).data.toList) B1) [(pt, .cells (pA ((aRow l).1.getD i PT0)) 35 (0, 0))] ([] ++ (Own.o 35 (pcells (aRow l).1) ow ++ [])) (by rfl) rfl Try.func24 rfl rfl (by kernel_rfl) (fun w1 h hh hd => bWriteString b acc B (pieceF a ((aRow l).1.getD i PT0)) w1 hB hh hd (by omega))) ?_
                rintro B7 kB7
                refine CfgL.done rfl ?_
                refine Conv.cfg (Γ' := [(38, [], .int .i64 (i : Int)), (37, [], .int .i64 ((aRow l).1.length : Int)), (36, [], .slice (some ⟨sb, off, none⟩) (aRow l).1.length (Own.c ow)), (11, [], .pointer (some ⟨b, 0, none⟩)), (8, [], .int .u32 ((aMost l) : Int)), (0, [], .string a)]) (Conv.mk (by kernel_rfl)) ?_
                refine Cfg.reg rfl [0, 8, 11, 36, 37, 38] [] (Γ' := [(38, [], .int .i64 ((i : Int) + 1)), (37, [], .int .i64 ((aRow l).1.length : Int)), (36, [], .slice (some ⟨sb, off, none⟩) (aRow l).1.length (Own.c ow)), (11, [], .pointer (some ⟨b, 0, none⟩)), (8, [], .int .u32 ((aMost l) : Int)), (0, [], .string a)]) (nd := (fun _ => [((-9223372036854775808 : Int) ≤ ((i : Int) + 1) ∧ ((i : Int) + 1) ≤ 9223372036854775807)])) (fun _ => by kernel_rfl) ⟨(by omega), trivial⟩ ?_
                have hst := applyP_next a (show i < (aRow l).1.length by omega) acc (by omega) (by omega)
                refine Cfg.setG (Γ' := [(38, [], .int .i64 ((i : Int) + 1)), (37, [], .int .i64 ((aRow l).1.length : Int)), (36, [], .slice (Own.a ow) (aRow l).1.length (Own.c ow)), (11, [], .pointer (some ⟨b, 0, none⟩)), (8, [], .int .u32 ((aMost l) : Int)), (0, [], .string a)]) (congrArg (fun (xq : Value) => ([(38, [], .int .i64 ((i : Int) + 1)), (37, [], .int .i64 ((aRow l).1.length : Int)), (36, [], xq), (11, [], .pointer (some ⟨b, 0, none⟩)), (8, [], .int .u32 ((aMost l) : Int)), (0, [], .string a)] : Env)) (congrArg (fun z => Value.slice z (aRow l).1.length (Own.c ow)) hla.symm)) ?_
                refine Cfg.again rfl (i + 1, (acc ++ (pieceF a ((aRow l).1.getD i PT0)).data.toList), B7) ⟨by omega, by rw [← hst]; exact hap, by rw [List.length_append, ba_len]; omega, kB7⟩ (by show (aRow l).1.length - (i + 1) < (aRow l).1.length - i; omega) (Conv.mk (by kernel_rfl)) (.cons _ (List.Sublist.refl _))
          · have c4 : ((((aRow l).1.getD i PT0).kind : Int) ≠ (0 : Int)) := (beq_eq_false_iff_ne.1 c4r)
            refine Cfg.setG (Γ' := [(46, [], .bool ((((aRow l).1.getD i PT0).kind : Int) == (0 : Int))), (14, [], .string (pieceF a ((aRow l).1.getD i PT0))), (13, [], .pointer (some ⟨pt, 0, none⟩)), (38, [], .int .i64 (i : Int)), (37, [], .int .i64 ((aRow l).1.length : Int)), (36, [], .slice (some ⟨sb, off, none⟩) (aRow l).1.length (Own.c ow)), (11, [], .pointer (some ⟨b, 0, none⟩)), (8, [], .int .u32 ((aMost l) : Int)), (0, [], .string a)]) (congrArg (fun (xq : ByteArray) => ([(46, [], .bool ((((aRow l).1.getD i PT0).kind : Int) == (0 : Int))), (14, [], .string xq), (13, [], .pointer (some ⟨pt, 0, none⟩)), (38, [], .int .i64 (i : Int)), (37, [], .int .i64 ((aRow l).1.length : Int)), (36, [], .slice (some ⟨sb, off, none⟩) (aRow l).1.length (Own.c ow)), (11, [], .pointer (some ⟨b, 0, none⟩)), (8, [], .int .u32 ((aMost l) : Int)), (0, [], .string a)] : Env)) (by unfold pieceF; rw [if_neg (show ¬ ((aRow l).1.getD i PT0).kind = 0 by omega)])) ?_
            refine Cfg.begL rfl ?_
            refine CfgL.eff (o := _) rfl (by kernel_rfl) (by kernel_rfl) (Eff.callA (vs := [.pointer (some ⟨b, 0, none⟩)]) (.int .i64 (acc.length : Int)) rfl Try.func23 rfl rfl (by kernel_rfl) (fun w1 h => bLen b acc B w1 (fun e he => h.own e (List.mem_append_right _ (List.mem_append_left _ he))))) ?_
            rintro ⟨⟩ -
            refine CfgL.pure 4 [] (some [0, 8, 11, 14, 36, 37, 38, 70]) (Γ' := [(70, [], .bool (decide (((acc.length : Int) + ((pieceF a ((aRow l).1.getD i PT0)).size : Int)) > (32768 : Int)))), (14, [], .string (pieceF a ((aRow l).1.getD i PT0))), (38, [], .int .i64 (i : Int)), (37, [], .int .i64 ((aRow l).1.length : Int)), (36, [], .slice (some ⟨sb, off, none⟩) (aRow l).1.length (Own.c ow)), (11, [], .pointer (some ⟨b, 0, none⟩)), (8, [], .int .u32 ((aMost l) : Int)), (0, [], .string a)]) (nd := (fun _ => [((-9223372036854775808 : Int) ≤ ((acc.length : Int) + ((pieceF a ((aRow l).1.getD i PT0)).size : Int)) ∧ ((acc.length : Int) + ((pieceF a ((aRow l).1.getD i PT0)).size : Int)) ≤ 9223372036854775807)])) (by kernel_rfl) (fun _ => by kernel_rfl) ⟨(by omega), trivial⟩ ?_
            refine CfgL.done rfl ?_
            refine Cfg.cond rfl (b := (decide (((acc.length : Int) + ((pieceF a ((aRow l).1.getD i PT0)).size : Int)) > (32768 : Int)))) (by kernel_rfl) (fun c7r => ?_) (fun c7r => ?_)
            · have c7 : (((acc.length : Int) + ((pieceF a ((aRow l).1.getD i PT0)).size : Int)) > (32768 : Int)) := (of_decide_eq_true c7r)
              refine Cfg.reg rfl [4, 5] [] (Γ' := [(5, [], .int .i64 5), (4, [], .string ⟨#[]⟩)]) (nd := (fun _ => [])) (fun _ => by kernel_rfl) trivial ?_
              refine Cfg.ret rfl (rs := [.tmp 4, .tmp 5]) rfl [.string ⟨#[]⟩, .int .i64 5] ⟨by kernel_rfl, by kernel_rfl, trivial⟩ (fun w1 hp => ?_)
              rw [applyF_bad (show ¬ aEnd l ≠ 0 by omega) (by omega) (hap ▸ applyP_long a (show i < (aRow l).1.length by omega) acc (by omega) (by omega)) (by decide)]
              exact ⟨rfl, hp.ext⟩
            · have c7 : (¬ (((acc.length : Int) + ((pieceF a ((aRow l).1.getD i PT0)).size : Int)) > (32768 : Int))) := (of_decide_eq_false c7r)
              refine Cfg.begL rfl ?_
              refine CfgL.pure 1 [] none (Γ' := [(71, [], .string (pieceF a ((aRow l).1.getD i PT0))), (70, [], .bool (decide (((acc.length : Int) + ((pieceF a ((aRow l).1.getD i PT0)).size : Int)) > (32768 : Int)))), (14, [], .string (pieceF a ((aRow l).1.getD i PT0))), (38, [], .int .i64 (i : Int)), (37, [], .int .i64 ((aRow l).1.length : Int)), (36, [], .slice (some ⟨sb, off, none⟩) (aRow l).1.length (Own.c ow)), (11, [], .pointer (some ⟨b, 0, none⟩)), (8, [], .int .u32 ((aMost l) : Int)), (0, [], .string a)]) (nd := (fun _ => [])) (by kernel_rfl) (fun _ => by kernel_rfl) trivial ?_
              refine CfgL.eff (o := _) rfl (by kernel_rfl) (by kernel_rfl) (Eff.callH (vs := [.pointer (some ⟨b, 0, none⟩), .string (pieceF a ((aRow l).1.getD i PT0))]) (fun _ => (.tuple #[.int .i64 ((pieceF a ((aRow l).1.getD i PT0)).size : Int), .nilIface] : Value)) (bl 54 5 b acc B) (fun B1 => bl 54 5 b (acc ++ (pieceF a ((aRow l).1.getD i PT0)).data.toList) B1) (fun B1 => BdOk b (acc ++ (pieceF a ((aRow l).1.getD i PT0)).data.toList) B1) [(pt, .cells (pA ((aRow l).1.getD i PT0)) 35 (0, 0))] ([] ++ (Own.o 35 (pcells (aRow l).1) ow ++ [])) (by rfl) rfl Try.func24 rfl rfl (by kernel_rfl) (fun w1 h hh hd => bWriteString b acc B (pieceF a ((aRow l).1.getD i PT0)) w1 hB hh hd (by omega))) ?_
              rintro B9 kB9
              refine CfgL.done rfl ?_
              refine Conv.cfg (Γ' := [(38, [], .int .i64 (i : Int)), (37, [], .int .i64 ((aRow l).1.length : Int)), (36, [], .slice (some ⟨sb, off, none⟩) (aRow l).1.length (Own.c ow)), (11, [], .pointer (some ⟨b, 0, none⟩)), (8, [], .int .u32 ((aMost l) : Int)), (0, [], .string a)]) (Conv.mk (by kernel_rfl)) ?_
              refine Cfg.reg rfl [0, 8, 11, 36, 37, 38] [] (Γ' := [(38, [], .int .i64 ((i : Int) + 1)), (37, [], .int .i64 ((aRow l).1.length : Int)), (36, [], .slice (some ⟨sb, off, none⟩) (aRow l).1.length (Own.c ow)), (11, [], .pointer (some ⟨b, 0, none⟩)), (8, [], .int .u32 ((aMost l) : Int)), (0, [], .string a)]) (nd := (fun _ => [((-9223372036854775808 : Int) ≤ ((i : Int) + 1) ∧ ((i : Int) + 1) ≤ 9223372036854775807)])) (fun _ => by kernel_rfl) ⟨(by omega), trivial⟩ ?_
              have hst := applyP_next a (show i < (aRow l).1.length by omega) acc (by omega) (by omega)
              refine Cfg.setG (Γ' := [(38, [], .int .i64 ((i : Int) + 1)), (37, [], .int .i64 ((aRow l).1.length : Int)), (36, [], .slice (Own.a ow) (aRow l).1.length (Own.c ow)), (11, [], .pointer (some ⟨b, 0, none⟩)), (8, [], .int .u32 ((aMost l) : Int)), (0, [], .string a)]) (congrArg (fun (xq : Value) => ([(38, [], .int .i64 ((i : Int) + 1)), (37, [], .int .i64 ((aRow l).1.length : Int)), (36, [], xq), (11, [], .pointer (some ⟨b, 0, none⟩)), (8, [], .int .u32 ((aMost l) : Int)), (0, [], .string a)] : Env)) (congrArg (fun z => Value.slice z (aRow l).1.length (Own.c ow)) hla.symm)) ?_
              refine Cfg.again rfl (i + 1, (acc ++ (pieceF a ((aRow l).1.getD i PT0)).data.toList), B9) ⟨by omega, by rw [← hst]; exact hap, by rw [List.length_append, ba_len]; omega, kB9⟩ (by show (aRow l).1.length - (i + 1) < (aRow l).1.length - i; omega) (Conv.mk (by kernel_rfl)) (.cons _ (List.Sublist.refl _))
        · have c3 : (¬ ((i : Int) < ((aRow l).1.length : Int))) := (of_decide_eq_false c3r)
          refine Cfg.begL rfl ?_
          refine CfgL.eff (o := _) rfl (by kernel_rfl) (by kernel_rfl) (Eff.callA (vs := [.pointer (some ⟨b, 0, none⟩)]) (.int .i64 (acc.length : Int)) rfl Try.func23 rfl rfl (by kernel_rfl) (fun w1 h => bLen b acc B w1 (fun e he => h.own e (List.mem_append_right _ (List.mem_append_left _ he))))) ?_
          rintro ⟨⟩ -
          refine CfgL.pure 4 [] (some [11, 78]) (Γ' := [(78, [], .bool (((acc.length : Int) % 18446744073709551616) != ((aMost l) : Int))), (11, [], .pointer (some ⟨b, 0, none⟩))]) (nd := (fun _ => [((0 : Int) ≤ ((aMost l) : Int) ∧ ((aMost l) : Int) ≤ 18446744073709551615)])) (by kernel_rfl) (fun _ => by kernel_rfl) ⟨(by omega), trivial⟩ ?_
          refine CfgL.done rfl ?_
          refine Cfg.cond rfl (b := (((acc.length : Int) % 18446744073709551616) != ((aMost l) : Int))) (by kernel_rfl) (fun c8r => ?_) (fun c8r => ?_)
          · have c8 : (((acc.length : Int) % 18446744073709551616) ≠ ((aMost l) : Int)) := (bne_iff_ne.1 c8r)
            refine Cfg.reg rfl [4, 5] [] (Γ' := [(5, [], .int .i64 4), (4, [], .string ⟨#[]⟩)]) (nd := (fun _ => [])) (fun _ => by kernel_rfl) trivial ?_
            refine Cfg.ret rfl (rs := [.tmp 4, .tmp 5]) rfl [.string ⟨#[]⟩, .int .i64 4] ⟨by kernel_rfl, by kernel_rfl, trivial⟩ (fun w1 hp => ?_)
            have hdn : (aRow l).1.drop i = [] := List.drop_eq_nil_of_le (by omega)
            rw [hdn] at hap
            rw [applyF_form (show ¬ aEnd l ≠ 0 by omega) (by omega) hap.symm (by omega)]
            exact ⟨rfl, hp.ext⟩
          · have c8 : (((acc.length : Int) % 18446744073709551616) = ((aMost l) : Int)) := (bne_eq_false_iff_eq.1 c8r)
            refine Cfg.begL rfl ?_
            refine CfgL.eff (o := _) rfl (by kernel_rfl) (by kernel_rfl) (Eff.callH (vs := [.pointer (some ⟨b, 0, none⟩)]) (fun _ : Unit => (.string (tx acc) : Value)) (bl 54 5 b acc B) (fun _ => []) (fun _ => True) [] ([] ++ (Own.o 35 (pcells (aRow l).1) ow ++ [])) (by rfl) rfl Try.func25 rfl rfl (by kernel_rfl) (fun w1 h hh hd => bString b acc B w1 hB hh hd (by omega))) ?_
            rintro ⟨⟩ -
            refine CfgL.pure 2 [] (some [4, 5]) (Γ' := [(5, [], .int .i64 0), (4, [], .string (tx acc))]) (nd := (fun _ => [])) (by kernel_rfl) (fun _ => by kernel_rfl) trivial ?_
            refine CfgL.done rfl ?_
            refine Cfg.ret rfl (rs := [.tmp 4, .tmp 5]) rfl [.string (tx acc), .int .i64 0] ⟨by kernel_rfl, by kernel_rfl, trivial⟩ (fun w1 hp => ?_)
            have hdn : (aRow l).1.drop i = [] := List.drop_eq_nil_of_le (by omega)
            rw [hdn] at hap
            rw [applyF_ok (show ¬ aEnd l ≠ 0 by omega) (by omega) hap.symm (by omega)]
            exact ⟨rfl, hp.ext⟩

end Go.Proofs.Ytfoihchlomlgfaa
