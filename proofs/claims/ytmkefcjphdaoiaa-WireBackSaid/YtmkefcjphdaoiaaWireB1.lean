/- wire: rows of texts taken; texts compared. Conditions: the In is the caller's own; at most so many. -/
import Derived.Test.YtmkefcjphdaoiaaWireA
namespace Go.Proofs.Ytmkefcjphdaoiaa
open K
set_option linter.unusedVariables false

theorem rowsF_succ {β : Type} {tk : IN → β × IN} {k : Nat} {z : IN} {acc : List β} (h : ¬ (tk z).2.er ≠ 0) : rowsF tk (k + 1) z acc = rowsF tk k (tk z).2 (acc ++ [(tk z).1]) := if_neg h
theorem rowsF_fail {β : Type} {tk : IN → β × IN} {k : Nat} {z : IN} {acc : List β} (h : (tk z).2.er ≠ 0) : rowsF tk (k + 1) z acc = ([], (tk z).2) := if_pos h
/-- A row that is taken: how many, and each. -/
def rowsT {β : Type} (tk : IN → β × IN) (z : IN) (most : Int) : List β × IN := rowsF tk (boundF z most 6).1 (boundF z most 6).2 []
/-- The first k elements were taken without error. -/
structure RowAt {β : Type} (tk : IN → β × IN) (n : Nat) (z0 : IN) (i : Nat) (z : IN) (acc : List β) : Prop where
  le : i ≤ n
  len : acc.length = i
  rest : rowsF tk (n - i) z acc = rowsF tk n z0 []
theorem RowAt.start {β : Type} (tk : IN → β × IN) (n : Nat) (z0 : IN) : RowAt tk n z0 0 z0 [] := ⟨Nat.zero_le _, rfl, by rw [Nat.sub_zero]⟩
theorem RowAt.next {β : Type} {tk : IN → β × IN} {n i : Nat} {z0 z : IN} {acc : List β} (h : RowAt tk n z0 i z acc) (hi : i < n) (he : (tk z).2.er = 0) : RowAt tk n z0 (i + 1) (tk z).2 (acc ++ [(tk z).1]) :=
  ⟨hi, by rw [List.length_append, h.len]; rfl, by rw [← h.rest, show n - i = (n - (i + 1)) + 1 by omega, rowsF_succ (by omega)]⟩
theorem RowAt.fail {β : Type} {tk : IN → β × IN} {n i : Nat} {z0 z : IN} {acc : List β} (h : RowAt tk n z0 i z acc) (hi : i < n) (he : (tk z).2.er ≠ 0) : rowsF tk n z0 [] = ([], (tk z).2) := by
  rw [← h.rest, show n - i = (n - (i + 1)) + 1 by omega, rowsF_fail he]
theorem RowAt.done {β : Type} {tk : IN → β × IN} {n : Nat} {z0 z : IN} {acc : List β} (h : RowAt tk n z0 n z acc) : rowsF tk n z0 [] = (acc, z) := by
  rw [← h.rest, Nat.sub_self]; rfl
theorem eq_toList (a b : ByteArray) (h : a = b) : (!(a.toList == b.toList)) = false := by rw [h, beq_self_eq_true]; rfl

theorem boundF_le (z : IN) {most e : Int} {m : Nat} (h : most ≤ (m : Int)) : (boundF z most e).1 ≤ m := by
  unfold boundF
  by_cases h0 : (fourF z).1 > (if 0 > most then 0 else most).toNat
  · rw [if_pos h0]; exact Nat.zero_le _
  · rw [if_neg h0]
    have : (if 0 > most then 0 else most).toNat ≤ m := by split <;> omega
    omega

set_option maxRecDepth 100000 in
theorem takeB (b : Nat) (z : IN) (w : World) (hB : w.heap[b]? = some (.cells (inC z) 103 (0, 0))) :
    Calls Try.prog 44 #[.pointer (some ⟨b, 0, none⟩)] w fun e w' => e = .returned (.string (tkText 300 z).1) ∧ Ext [b] w w' ∧ w'.heap[b]? = some (.cells (inC (tkText 300 z).2) 103 (0, 0)) := by
  refine enter (vs := [.pointer (some ⟨b, 0, none⟩)]) [b] [] [(b, .cells (inC z) 103 (0, 0))] Try.func44 rfl (by kernel_rfl) (HP.startM (R := []) (fun _ h => by cases h) hB (by simp)) ?_
  refine Cfg.reg rfl [0] [] (Γ' := [(0, [], .pointer (some ⟨b, 0, none⟩))]) (nd := (fun _ => [])) (fun _ => by kernel_rfl) trivial ?_
  refine Cfg.begL rfl ?_
  refine CfgL.pure 1 [] none (Γ' := [(3, [], .pointer (some ⟨b, 0, none⟩)), (0, [], .pointer (some ⟨b, 0, none⟩))]) (nd := (fun _ => [])) (by kernel_rfl) (fun _ => by kernel_rfl) trivial ?_
  refine CfgL.eff (o := _) rfl (by kernel_rfl) (by kernel_rfl) (Eff.callM (vs := [.pointer (some ⟨b, 0, none⟩), .int .i64 300]) (.string (tx (textF z (300 : Int)).1)) 0 (b := b) (ob := .cells (inC z) 103 (0, 0)) (.cells (inC ((textF z (300 : Int)).2)) 103 (0, 0)) rfl Try.func24 rfl rfl (by kernel_rfl) (by kernel_rfl) (fun w1 h => wTText b z (300 : Int) w1 (h.own (b, _) (List.mem_of_getElem? (i := 0) rfl)) (by omega))) ?_
  rintro ⟨⟩ -
  refine CfgL.pure 1 [] (some [2]) (Γ' := [(2, [], .string (tx (textF z (300 : Int)).1))]) (nd := (fun _ => [])) (by kernel_rfl) (fun _ => by kernel_rfl) trivial ?_
  refine CfgL.done rfl ?_
  refine Cfg.ret rfl (rs := [.tmp 2]) rfl [.string (tx (textF z (300 : Int)).1)] ⟨by kernel_rfl, trivial⟩ (fun w1 hp => ?_)
  exact ⟨rfl, hp.ext, hp.own (b, _) (List.mem_cons_self ..)⟩

set_option maxRecDepth 100000 in
theorem wRowsB (b : Nat) (z : IN) (most : Int) (w : World) (hB : w.heap[b]? = some (.cells (inC z) 103 (0, 0))) (hm : most ≤ 1048576) :
    Calls Try.prog 47 #[.pointer (some ⟨b, 0, none⟩), .int .i64 most, .func (.func 44) #[] #[]] w fun e w' => ∃ o : Own, OwnOk o 1 (rowsT (tkText 300) z most).1.length (scells (rowsT (tkText 300) z most).1) ∧ e = .returned (.slice o.a (rowsT (tkText 300) z most).1.length o.c) ∧ Ext [b] w w' ∧ w'.heap[b]? = some (.cells (inC (rowsT (tkText 300) z most).2) 103 (0, 0)) ∧ Has w' (o.o 9 (scells (rowsT (tkText 300) z most).1)) ∧ (∀ x ∈ o.o 9 (scells (rowsT (tkText 300) z most).1), w.heap.size ≤ x.1) := by
  have hbl := boundF_lt z most 6
  have hbm : (boundF z most 6).1 ≤ 1048576 := boundF_le z (by omega)
  refine enter (vs := [.pointer (some ⟨b, 0, none⟩), .int .i64 most, .func (.func 44) #[] #[]]) [b] [] [(b, .cells (inC z) 103 (0, 0))] Try.func47 rfl (by kernel_rfl) (HP.startM (R := []) (fun _ h => by cases h) hB (by simp)) ?_
  refine Cfg.reg rfl [0, 1, 2] [] (Γ' := [(0, [], .pointer (some ⟨b, 0, none⟩)), (1, [], .int .i64 most), (2, [], .func (.func 44) #[] #[])]) (nd := (fun _ => [])) (fun _ => by kernel_rfl) trivial ?_
  refine Cfg.reg rfl [0, 1, 2, 7] [] (Γ' := [(7, [], .slice none 0 0), (0, [], .pointer (some ⟨b, 0, none⟩)), (1, [], .int .i64 most), (2, [], .func (.func 44) #[] #[])]) (nd := (fun _ => [])) (fun _ => by kernel_rfl) trivial ?_
  refine Cfg.begL rfl ?_
  refine CfgL.pure 2 [] none (Γ' := [(10, [], .int .i64 most), (9, [], .pointer (some ⟨b, 0, none⟩)), (7, [], .slice none 0 0), (0, [], .pointer (some ⟨b, 0, none⟩)), (1, [], .int .i64 most), (2, [], .func (.func 44) #[] #[])]) (nd := (fun _ => [])) (by kernel_rfl) (fun _ => by kernel_rfl) trivial ?_
  refine CfgL.eff (o := _) rfl (by kernel_rfl) (by kernel_rfl) (Eff.callM (vs := [.pointer (some ⟨b, 0, none⟩), .int .i64 most]) (.int .i64 ((boundF z most 6).1 : Int)) 0 (b := b) (ob := .cells (inC z) 103 (0, 0)) (.cells (inC ((boundF z most 6).2)) 103 (0, 0)) rfl Try.func26 rfl rfl (by kernel_rfl) (by kernel_rfl) (fun w1 h => wCount b z most w1 (h.own (b, _) (List.mem_of_getElem? (i := 0) rfl)) (by omega))) ?_
  rintro ⟨⟩ -
  refine CfgL.pure 1 [] (some [0, 2, 7, 11, 12]) (Γ' := [(12, [], .int .i64 0), (11, [], .int .i64 ((boundF z most 6).1 : Int)), (7, [], .slice none 0 0), (0, [], .pointer (some ⟨b, 0, none⟩)), (2, [], .func (.func 44) #[] #[])]) (nd := (fun _ => [])) (by kernel_rfl) (fun _ => by kernel_rfl) trivial ?_
  refine CfgL.done rfl ?_
  refine Cfg.loop rfl (ι := Nat × IN × List ByteArray × Own) (fun (x : Nat × IN × List ByteArray × Own) => match x with | (i, y, acc, own) => [(12, [], .int .i64 (i : Int)), (11, [], .int .i64 ((boundF z most 6).1 : Int)), (7, [], .slice (Own.a own) acc.length (Own.c own)), (0, [], .pointer (some ⟨b, 0, none⟩)), (2, [], .func (.func 44) #[] #[])]) (fun (x : Nat × IN × List ByteArray × Own) => match x with | (i, y, acc, own) => ([(b, .cells (inC y) 103 (0, 0))] ++ (Own.o 9 (scells acc) own ++ []))) (fun (x : Nat × IN × List ByteArray × Own) => match x with | (i, y, acc, own) => (RowAt (tkText 300) (boundF z most 6).1 (boundF z most 6).2 i y acc) ∧ (OwnOk own 1 acc.length (scells acc))) (fun (x : Nat × IN × List ByteArray × Own) => match x with | (i, y, acc, own) => (boundF z most 6).1 - i) (0, (boundF z most 6).2, [], none) ?_ (Conv.mk (by kernel_rfl)) (List.Sublist.refl _) ?_
  · exact ⟨RowAt.start _ _ _, OwnOk.none _⟩
  · rintro ⟨i, y, acc, own⟩ ⟨hra, hok⟩
    have hal := hra.len
    have hle := hra.le
    refine Cfg.reg rfl [0, 2, 7, 11, 12, 13] [] (Γ' := [(13, [], .bool (decide ((i : Int) < ((boundF z most 6).1 : Int)))), (12, [], .int .i64 (i : Int)), (11, [], .int .i64 ((boundF z most 6).1 : Int)), (7, [], .slice (Own.a own) acc.length (Own.c own)), (0, [], .pointer (some ⟨b, 0, none⟩)), (2, [], .func (.func 44) #[] #[])]) (nd := (fun _ => [])) (fun _ => by kernel_rfl) trivial ?_
    refine Cfg.cond rfl (b := (decide ((i : Int) < ((boundF z most 6).1 : Int)))) (by kernel_rfl) (fun c1r => ?_) (fun c1r => ?_)
    · have c1 : ((i : Int) < ((boundF z most 6).1 : Int)) := (of_decide_eq_true c1r)
      refine Cfg.begL rfl ?_
      refine CfgL.pure 2 [] none (Γ' := [(15, [], .pointer (some ⟨b, 0, none⟩)), (14, [], .func (.func 44) #[] #[]), (13, [], .bool (decide ((i : Int) < ((boundF z most 6).1 : Int)))), (12, [], .int .i64 (i : Int)), (11, [], .int .i64 ((boundF z most 6).1 : Int)), (7, [], .slice (Own.a own) acc.length (Own.c own)), (0, [], .pointer (some ⟨b, 0, none⟩)), (2, [], .func (.func 44) #[] #[])]) (nd := (fun _ => [])) (by kernel_rfl) (fun _ => by kernel_rfl) trivial ?_
      refine CfgL.eff (o := _) rfl (by kernel_rfl) (by kernel_rfl) (Eff.callMV (vs := [.pointer (some ⟨b, 0, none⟩)]) (.string (tkText 300 y).1) 0 (b := b) (ob := .cells (inC y) 103 (0, 0)) (.cells (inC (tkText 300 y).2) 103 (0, 0)) rfl (by kernel_rfl) Try.func44 rfl rfl (by kernel_rfl) (by kernel_rfl) (fun w1 h => takeB b y w1 (h.own (b, _) (List.mem_of_getElem? (i := 0) rfl)))) ?_
      rintro ⟨⟩ -
      refine CfgL.pure 1 [] (some [0, 2, 7, 8, 11, 12]) (Γ' := [(8, [], .string (tkText 300 y).1), (12, [], .int .i64 (i : Int)), (11, [], .int .i64 ((boundF z most 6).1 : Int)), (7, [], .slice (Own.a own) acc.length (Own.c own)), (0, [], .pointer (some ⟨b, 0, none⟩)), (2, [], .func (.func 44) #[] #[])]) (nd := (fun _ => [])) (by kernel_rfl) (fun _ => by kernel_rfl) trivial ?_
      refine CfgL.done rfl ?_
      refine Cfg.begL rfl ?_
      refine CfgL.pure 1 [] none (Γ' := [(17, [], .pointer (some ⟨b, 0, none⟩)), (8, [], .string (tkText 300 y).1), (12, [], .int .i64 (i : Int)), (11, [], .int .i64 ((boundF z most 6).1 : Int)), (7, [], .slice (Own.a own) acc.length (Own.c own)), (0, [], .pointer (some ⟨b, 0, none⟩)), (2, [], .func (.func 44) #[] #[])]) (nd := (fun _ => [])) (by kernel_rfl) (fun _ => by kernel_rfl) trivial ?_
      refine CfgL.eff (o := _) rfl (by kernel_rfl) (by kernel_rfl) (Eff.callA (vs := [.pointer (some ⟨b, 0, none⟩)]) (.int .i64 (((tkText 300 y).2).er)) rfl Try.func29 rfl rfl (by kernel_rfl) (fun w1 h => wErr b ((tkText 300 y).2) w1 (h.own (b, _) (List.mem_of_getElem? (i := 0) rfl)))) ?_
      rintro ⟨⟩ -
      refine CfgL.pure 1 [] (some [0, 2, 7, 8, 11, 12, 19]) (Γ' := [(19, [], .bool ((((tkText 300 y).2).er) != (0 : Int))), (8, [], .string (tkText 300 y).1), (12, [], .int .i64 (i : Int)), (11, [], .int .i64 ((boundF z most 6).1 : Int)), (7, [], .slice (Own.a own) acc.length (Own.c own)), (0, [], .pointer (some ⟨b, 0, none⟩)), (2, [], .func (.func 44) #[] #[])]) (nd := (fun _ => [])) (by kernel_rfl) (fun _ => by kernel_rfl) trivial ?_
      refine CfgL.done rfl ?_
      refine Cfg.cond rfl (b := ((((tkText 300 y).2).er) != (0 : Int))) (by kernel_rfl) (fun c2r => ?_) (fun c2r => ?_)
      · have c2 : ((((tkText 300 y).2).er) ≠ (0 : Int)) := (bne_iff_ne.1 c2r)
        refine Cfg.reg rfl [6] [] (Γ' := [(6, [], .slice none 0 0)]) (nd := (fun _ => [])) (fun _ => by kernel_rfl) trivial ?_
        refine Cfg.ret rfl (rs := [.tmp 6]) rfl [.slice none 0 0] ⟨by kernel_rfl, trivial⟩ (fun w1 hp => ?_)
        have hx : rowsT (tkText 300) z most = ([], (tkText 300 y).2) := hra.fail (by omega) c2
        rw [hx]
        exact ⟨none, OwnOk.none _, rfl, hp.ext, hp.own (b, _) (List.mem_of_getElem? (i := 0) rfl), (fun _ h => by cases h), (fun _ h => by cases h)⟩
      · have c2 : ((((tkText 300 y).2).er) = (0 : Int)) := (bne_eq_false_iff_eq.1 c2r)
        refine Cfg.begL rfl ?_
        refine CfgL.pure 2 [] none (Γ' := [(21, [], .string (tkText 300 y).1), (20, [], .slice (Own.a own) acc.length (Own.c own)), (19, [], .bool ((((tkText 300 y).2).er) != (0 : Int))), (8, [], .string (tkText 300 y).1), (12, [], .int .i64 (i : Int)), (11, [], .int .i64 ((boundF z most 6).1 : Int)), (7, [], .slice (Own.a own) acc.length (Own.c own)), (0, [], .pointer (some ⟨b, 0, none⟩)), (2, [], .func (.func 44) #[] #[])]) (nd := (fun _ => [])) (by kernel_rfl) (fun _ => by kernel_rfl) trivial ?_
        refine CfgL.eff (o := _) rfl (by kernel_rfl) (by kernel_rfl) (Eff.buildSlice (e := 9) (cells := #[.string (tkText 300 y).1]) (parts := #[(0, .string (tkText 300 y).1)]) rfl (by kernel_rfl) (fun _ => by kernel_rfl)) ?_
        rintro bk1 ⟨hbk1, nbk1⟩
        refine CfgL.eff (o := _) rfl (by kernel_rfl) (by kernel_rfl) (Eff.appendF rfl 1 16 Try.underlying58 (by kernel_rfl) (z := (.string ByteArray.empty)) (by kernel_rfl) (by kernel_rfl) own (xs := (scells acc)) hok (by kernel_rfl) (b2 := bk1) (off2 := 0) (m := 1) (c2 := 1) (by kernel_rfl) ([Value.string (tkText 300 y).1]) rfl (by intro v hv; rw [List.mem_singleton.1 hv]; rfl) [(bk1, .cells #[.string (tkText 300 y).1] 9 (0, 0)), (b, .cells (inC ((tkText 300 y).2)) 103 (0, 0))] [] (by rfl) (fun w1 h j v hj => by rw [Nat.zero_add]; exact h.ocell 0 rfl (by rw [← Array.getElem?_toList]; exact hj)) (by omega) (by omega)) ?_
        rintro o4 ko4
        refine CfgL.pure 1 [] (some [0, 2, 7, 11, 12]) (Γ' := [(7, [], .slice (Own.a o4) ((acc.length + 1)) (Own.c o4)), (12, [], .int .i64 (i : Int)), (11, [], .int .i64 ((boundF z most 6).1 : Int)), (0, [], .pointer (some ⟨b, 0, none⟩)), (2, [], .func (.func 44) #[] #[])]) (nd := (fun _ => [])) (by kernel_rfl) (fun _ => by kernel_rfl) trivial ?_
        refine CfgL.done rfl ?_
        refine Cfg.reg rfl [0, 2, 7, 11, 12] [] (Γ' := [(12, [], .int .i64 ((i : Int) + 1)), (7, [], .slice (Own.a o4) ((acc.length + 1)) (Own.c o4)), (11, [], .int .i64 ((boundF z most 6).1 : Int)), (0, [], .pointer (some ⟨b, 0, none⟩)), (2, [], .func (.func 44) #[] #[])]) (nd := (fun _ => [((-9223372036854775808 : Int) ≤ ((i : Int) + 1) ∧ ((i : Int) + 1) ≤ 9223372036854775807)])) (fun _ => by kernel_rfl) ⟨(by omega), trivial⟩ ?_
        have hra2 := hra.next (by omega) c2
        refine Cfg.setO (O' := ([(bk1, .cells #[.string (tkText 300 y).1] 9 (0, 0)), (b, .cells (inC ((tkText 300 y).2)) 103 (0, 0))] ++ (Own.o 9 (scells (acc ++ [(tkText 300 y).1])) o4 ++ []))) (congrArg (fun (xq : List Value) => (([(bk1, .cells #[.string (tkText 300 y).1] 9 (0, 0)), (b, .cells (inC ((tkText 300 y).2)) 103 (0, 0))] ++ (Own.o 9 xq o4 ++ [])) : List (Nat × Obj))) (by rw [scells_snoc])) ?_
        refine Cfg.setG (Γ' := [(12, [], .int .i64 ((i : Int) + 1)), (7, [], .slice (Own.a o4) ((acc ++ [(tkText 300 y).1]).length) (Own.c o4)), (11, [], .int .i64 ((boundF z most 6).1 : Int)), (0, [], .pointer (some ⟨b, 0, none⟩)), (2, [], .func (.func 44) #[] #[])]) (congrArg (fun (xq : Nat) => ([(12, [], .int .i64 ((i : Int) + 1)), (7, [], .slice (Own.a o4) xq (Own.c o4)), (11, [], .int .i64 ((boundF z most 6).1 : Int)), (0, [], .pointer (some ⟨b, 0, none⟩)), (2, [], .func (.func 44) #[] #[])] : Env)) (by rw [List.length_append]; rfl)) ?_
        refine Cfg.again rfl (i + 1, (tkText 300 y).2, acc ++ [(tkText 300 y).1], o4) ⟨hra2, by rw [← scells_snoc, List.length_append]; exact ko4⟩ (by show (boundF z most 6).1 - (i + 1) < (boundF z most 6).1 - i; omega) (Conv.mk (by kernel_rfl)) (.cons _ (.cons_cons _ (List.Sublist.refl _)))
    · have c1 : (¬ ((i : Int) < ((boundF z most 6).1 : Int))) := (of_decide_eq_false c1r)
      refine Cfg.reg rfl [6] [] (Γ' := [(6, [], .slice (Own.a own) acc.length (Own.c own))]) (nd := (fun _ => [])) (fun _ => by kernel_rfl) trivial ?_
      refine Cfg.ret rfl (rs := [.tmp 6]) rfl [.slice (Own.a own) acc.length (Own.c own)] ⟨by kernel_rfl, trivial⟩ (fun w1 hp => ?_)
      have hi2 : i = (boundF z most 6).1 := by omega
      have hx : rowsT (tkText 300) z most = (acc, y) := (hi2 ▸ hra).done
      rw [hx]
      refine ⟨own, hok, rfl, hp.ext, hp.own (b, _) (List.mem_append_left _ (List.mem_of_getElem? (i := 0) rfl)), fun x hx => hp.own x (List.mem_append_right _ (List.mem_append_left _ hx)), fun x hx => ?_⟩
      rcases hp.mine x (List.mem_append_right _ (List.mem_append_left _ hx)) with h1 | h1
      · exact h1
      · exfalso
        have hd := hp.dist
        rw [List.map_append] at hd
        refine (List.nodup_append.1 hd).2.2 b (List.mem_map.2 ⟨(b, _), List.mem_of_getElem? (i := 0) rfl, rfl⟩) x.1 (List.mem_map.2 ⟨x, List.mem_append_left _ hx, rfl⟩) ?_
        exact (List.mem_singleton.1 h1).symm

set_option maxRecDepth 100000 in
theorem eqTexts (la lb : Option Addr) (ca cb : Nat) (xs : List ByteArray) (Rl : List (Nat × Obj)) (w : World) (hIa : InS Rl la xs.length (fun j => .string (xs.getD j ByteArray.empty))) (hIb : InS Rl lb xs.length (fun j => .string (xs.getD j ByteArray.empty))) (hR : Has w Rl) (hn : xs.length ≤ 9223372036854775807) :
    Calls Try.prog 46 #[.slice la xs.length ca, .slice lb xs.length cb] w fun e w' => e = .returned (.bool true) ∧ Ext [] w w' := by
  refine enter (vs := [.slice la xs.length ca, .slice lb xs.length cb]) [] Rl [] Try.func46 rfl (by kernel_rfl) (HP.ofHas hR) ?_
  refine Cfg.reg rfl [0, 1] [] (Γ' := [(0, [], .slice la xs.length ca), (1, [], .slice lb xs.length cb)]) (nd := (fun _ => [])) (fun _ => by kernel_rfl) trivial ?_
  refine Cfg.reg rfl [0, 1, 10] [] (Γ' := [(10, [], .bool ((xs.length : Int) != (xs.length : Int))), (0, [], .slice la xs.length ca), (1, [], .slice lb xs.length cb)]) (nd := (fun _ => [])) (fun _ => by kernel_rfl) trivial ?_
  refine Cfg.condF rfl (b := ((xs.length : Int) != (xs.length : Int))) (by kernel_rfl) (bne_self_eq_false _) ?_
  refine Cfg.reg rfl [0, 1, 12, 13] [] (Γ' := [(13, [], .int .i64 0), (12, [], .int .i64 (xs.length : Int)), (0, [], .slice la xs.length ca), (1, [], .slice lb xs.length cb)]) (nd := (fun _ => [])) (fun _ => by kernel_rfl) trivial ?_
  refine Cfg.loop rfl (ι := Nat) (fun (i : Nat) => [(13, [], .int .i64 (i : Int)), (12, [], .int .i64 (xs.length : Int)), (0, [], .slice la xs.length ca), (1, [], .slice lb xs.length cb)]) (fun (i : Nat) => []) (fun (i : Nat) => (i ≤ xs.length)) (fun (i : Nat) => xs.length - i) 0 ?_ (Conv.mk (by kernel_rfl)) .slnil ?_
  · exact Nat.zero_le _
  · rintro i hi
    refine Cfg.reg rfl [0, 1, 12, 13, 14] [] (Γ' := [(14, [], .bool (decide ((i : Int) < (xs.length : Int)))), (13, [], .int .i64 (i : Int)), (12, [], .int .i64 (xs.length : Int)), (0, [], .slice la xs.length ca), (1, [], .slice lb xs.length cb)]) (nd := (fun _ => [])) (fun _ => by kernel_rfl) trivial ?_
    refine Cfg.cond rfl (b := (decide ((i : Int) < (xs.length : Int)))) (by kernel_rfl) (fun c2r => ?_) (fun c2r => ?_)
    · have c2 : ((i : Int) < (xs.length : Int)) := (of_decide_eq_true c2r)
      refine Cfg.reg rfl [0, 1, 5, 12, 13] [] (Γ' := [(5, [], .int .i64 (i : Int)), (13, [], .int .i64 (i : Int)), (12, [], .int .i64 (xs.length : Int)), (0, [], .slice la xs.length ca), (1, [], .slice lb xs.length cb)]) (nd := (fun _ => [])) (fun _ => by kernel_rfl) trivial ?_
      obtain ⟨sa, offa, csa, tea, frea, rfl, hma, hca⟩ := hIa (by omega)
      obtain ⟨sb, offb, csb, teb, freb, rfl, hmb, hcb⟩ := hIb (by omega)
      refine Conv.cfg (Γ' := [(5, [], .int .i64 (i : Int)), (13, [], .int .i64 (i : Int)), (12, [], .int .i64 (xs.length : Int)), (0, [], .slice (some ⟨sa, offa, none⟩) xs.length ca), (1, [], .slice (some ⟨sb, offb, none⟩) xs.length cb)]) (Conv.mk (by kernel_rfl)) ?_
      refine Cfg.regD rfl (by kernel_rfl) [0, 1, 12, 13, 24] [(0, false, none), (0, false, none), (0, false, none), (0, false, some (.string (xs.getD i ByteArray.empty))), (0, false, none), (0, false, none), (0, false, none), (0, false, some (.string (xs.getD i ByteArray.empty)))] (Γ' := [(24, [], .bool (!((xs.getD i ByteArray.empty).toList == (xs.getD i ByteArray.empty).toList))), (13, [], .int .i64 (i : Int)), (12, [], .int .i64 (xs.length : Int)), (0, [], .slice (some ⟨sa, offa, none⟩) xs.length ca), (1, [], .slice (some ⟨sb, offb, none⟩) xs.length cb)]) (nd := (fun S => [(0 ≤ (i : Int) ∧ (i : Int) < (xs.length : Int)), (∀ w1, S w1 → w1.cell? ⟨sa, (addO offa i), none⟩ = some (.string (xs.getD i ByteArray.empty))), (0 ≤ (i : Int) ∧ (i : Int) < (xs.length : Int)), (∀ w1, S w1 → w1.cell? ⟨sb, (addO offb i), none⟩ = some (.string (xs.getD i ByteArray.empty)))])) (by kernel_rfl) (by kernel_rfl) (fun _ => by kernel_rfl) ⟨(by omega), (fun w1 h => by rw [addO_eq]; exact (cell_cells (h.ro _ hma)).trans (hca i (by omega))), (by omega), (fun w1 h => by rw [addO_eq]; exact (cell_cells (h.ro _ hmb)).trans (hcb i (by omega))), trivial⟩ ?_
      refine Cfg.condF rfl (b := (!((xs.getD i ByteArray.empty).toList == (xs.getD i ByteArray.empty).toList))) (by kernel_rfl) (eq_toList _ _ rfl) ?_
      refine Cfg.reg rfl [0, 1, 12, 13] [] (Γ' := [(13, [], .int .i64 ((i : Int) + 1)), (12, [], .int .i64 (xs.length : Int)), (0, [], .slice (some ⟨sa, offa, none⟩) xs.length ca), (1, [], .slice (some ⟨sb, offb, none⟩) xs.length cb)]) (nd := (fun _ => [((-9223372036854775808 : Int) ≤ ((i : Int) + 1) ∧ ((i : Int) + 1) ≤ 9223372036854775807)])) (fun _ => by kernel_rfl) ⟨(by omega), trivial⟩ ?_
      refine Cfg.again rfl (i + 1) (show i + 1 ≤ xs.length by omega) (by omega) (Conv.mk (by kernel_rfl)) .slnil
    · have c2 : (¬ ((i : Int) < (xs.length : Int))) := (of_decide_eq_false c2r)
      refine Cfg.reg rfl [4] [] (Γ' := [(4, [], .bool true)]) (nd := (fun _ => [])) (fun _ => by kernel_rfl) trivial ?_
      refine Cfg.ret rfl (rs := [.tmp 4]) rfl [.bool true] ⟨by kernel_rfl, trivial⟩ (fun w1 hp => ?_)
      exact ⟨rfl, hp.ext⟩

end Go.Proofs.Ytmkefcjphdaoiaa
