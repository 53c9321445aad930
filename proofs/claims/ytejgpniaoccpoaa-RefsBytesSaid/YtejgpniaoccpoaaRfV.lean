/- refs: the state that bytes are. -/
import Derived.Test.YtejgpniaoccpoaaRfU
namespace Go.Proofs.Ytejgpniaoccpoaa
open K
set_option linter.unusedVariables false

theorem boundF_le (z : IN) {most e : Int} {m : Nat} (h : most ≤ (m : Int)) : (boundF z most e).1 ≤ m := by
  unfold boundF
  by_cases h0 : (fourF z).1 > (if 0 > most then 0 else most).toNat
  · rw [if_pos h0]; exact Nat.zero_le _
  · rw [if_neg h0]
    have : (if 0 > most then 0 else most).toNat ≤ m := by split <;> omega
    omega

theorem pS_eq (t : List UInt8) : pS t = ⟨tx (p1 t).1, (p2 t).1, (p3 t).1, (p4 t).1⟩ := by unfold pS; rfl
theorem parse_ret {t : List UInt8} {w w1 : World} {R : List (Nat × Obj)} (o1 o2 : K.Own) (a : ByteArray) (L M : List Rf) (n : Int) (hs : parseS t = ⟨a, L, M, n⟩) (hE : parseE t = 0) (ko1 : OwnOk o1 33 L.length (rv L)) (ko2 : OwnOk o2 33 M.length (rv M)) (hp : HP w [] R (Own.o 50 (rv M) o2 ++ (Own.o 50 (rv L) o1 ++ [])) w1) :
    ∃ x : K.Own × K.Own, (OwnOk x.1 33 (parseS t).l.length (rv (parseS t).l) ∧ OwnOk x.2 33 (parseS t).m.length (rv (parseS t).m)) ∧ Ending.returned (resOf [.agg #[.string a, .slice (Own.a o1) L.length (Own.c o1), .slice (Own.a o2) M.length (Own.c o2), .int .u64 n], .int .i64 0]) = .returned (.tuple #[.agg #[.string (parseS t).hd, .slice (Own.a x.1) (parseS t).l.length (Own.c x.1), .slice (Own.a x.2) (parseS t).m.length (Own.c x.2), .int .u64 (parseS t).nx], .int .i64 (parseE t)]) ∧ ∃ R1, HP w [] R1 (Own.o 50 (rv (parseS t).m) x.2 ++ (Own.o 50 (rv (parseS t).l) x.1 ++ [])) w1 := by
  rw [hs, hE]
  exact ⟨(o1, o2), ⟨ko1, ko2⟩, rfl, _, hp⟩
theorem take_size {l : List UInt8} (z : IN) (most : Int) (hm : most ≤ 1000) : (textF z most).1.length ≤ 1000 := by
  unfold textF
  have h1 := nextF_len (boundF z most 5).2 (boundF z most 5).1
  have h2 : (boundF z most 5).1 ≤ 1000 := boundF_le z (by omega)
  omega
theorem nm1 (t : List UInt8) (ht : t.length ≤ 9223372036854775807) : (p1 t).1.length ≤ maxLen := Nat.le_trans (take_size (l := t) _ _ (by decide)) (by decide)
theorem rowsF_nm : ∀ (k : Nat) (z : IN) (acc : List Rf), (∀ x ∈ acc, x.1.size ≤ maxLen) → ∀ x ∈ (rowsF takeR k z acc).1, x.1.size ≤ maxLen
  | 0, z, acc, h => h
  | k + 1, z, acc, h => by
    rw [rowsF]; split
    · intro x hx; cases hx
    · refine rowsF_nm k _ _ (fun x hx => ?_)
      rcases List.mem_append.1 hx with hx | hx
      · exact h x hx
      · rw [List.mem_singleton.1 hx]
        show (tx (textF z 24).1).size ≤ maxLen
        rw [tx_size]
        exact Nat.le_trans (take_size (l := []) _ _ (by decide)) (by decide)
theorem nmP (z : IN) : ∀ x ∈ (rowsT takeR z 16).1, x.1.size ≤ maxLen := by unfold rowsT; exact rowsF_nm _ _ _ (fun x hx => by cases hx)
set_option maxRecDepth 100000 in
set_option maxHeartbeats 4000000 in
theorem rParse (t : List UInt8) (w : World) (ht : t.length ≤ 9223372036854775807) :
    Calls Try.prog 8 #[.string (tx t)] w fun e w' => ∃ x : K.Own × K.Own, (OwnOk x.1 33 (parseS t).l.length (rv (parseS t).l) ∧ OwnOk x.2 33 (parseS t).m.length (rv (parseS t).m)) ∧ e = .returned (.tuple #[.agg #[.string (parseS t).hd, .slice (Own.a x.1) (parseS t).l.length (Own.c x.1), .slice (Own.a x.2) (parseS t).m.length (Own.c x.2), .int .u64 (parseS t).nx], .int .i64 (parseE t)]) ∧ ∃ R1, HP w [] R1 (Own.o 50 (rv (parseS t).m) x.2 ++ (Own.o 50 (rv (parseS t).l) x.1 ++ [])) w' := by
  have hl1 := rowsT_len (p1 t).2
  have hl2 := rowsT_len (p2 t).2
  have hw1 := rowsT_w (p1 t).2
  have hw2 := rowsT_w (p2 t).2
  refine enter (vs := [.string (tx t)]) [] [] [] Try.func8 rfl (by kernel_rfl) (HP.start w) ?_
  refine Cfg.begL rfl ?_
  refine CfgL.eff (o := _) rfl (by kernel_rfl) (by kernel_rfl) (Eff.alloc (z := (.agg #[.string ByteArray.empty, .slice none 0 0, .slice none 0 0, .int .u64 0])) rfl (by kernel_rfl)) ?_
  rintro rs ⟨hrs, nrs⟩
  refine CfgL.pure 1 [] (some [0, 2]) (Γ' := [(2, [], .pointer (some ⟨rs, 0, none⟩)), (0, [], .string (tx t))]) (nd := (fun _ => [])) (by kernel_rfl) (fun _ => by kernel_rfl) trivial ?_
  refine CfgL.done rfl ?_
  refine Cfg.begL rfl ?_
  refine CfgL.eff (o := _) rfl (by kernel_rfl) (by kernel_rfl) (Eff.alloc (z := (.agg #[.string ByteArray.empty, .slice none 0 0, .slice none 0 0, .int .u64 0])) rfl (by kernel_rfl)) ?_
  rintro s ⟨hs, ns⟩
  refine CfgL.done rfl ?_
  refine Cfg.begL rfl ?_
  refine CfgL.pure 1 [] none (Γ' := [(8, [], .string (tx t)), (4, [], .pointer (some ⟨s, 0, none⟩)), (2, [], .pointer (some ⟨rs, 0, none⟩)), (0, [], .string (tx t))]) (nd := (fun _ => [])) (by kernel_rfl) (fun _ => by kernel_rfl) trivial ?_
  refine CfgL.eff (o := _) rfl (by kernel_rfl) (by kernel_rfl) (Eff.callN (vs := [.string (tx t)]) (fun b : Nat => .pointer (some ⟨b, 0, none⟩)) (fun b => b) (fun _ => .cells (inC ⟨0, t⟩) 98 (0, 0)) (fun _ => True) rfl Try.func25 rfl rfl (by kernel_rfl) (fun w1 _ => wOf t w1)) ?_
  rintro ib ⟨-, hib, nib⟩
  refine CfgL.pure 1 [] (some [2, 4, 5]) (Γ' := [(5, [], .pointer (some ⟨ib, 0, none⟩)), (4, [], .pointer (some ⟨s, 0, none⟩)), (2, [], .pointer (some ⟨rs, 0, none⟩))]) (nd := (fun _ => [])) (by kernel_rfl) (fun _ => by kernel_rfl) trivial ?_
  refine CfgL.done rfl ?_
  refine Cfg.begL rfl ?_
  refine CfgL.pure 1 [] none (Γ' := [(10, [], .pointer (some ⟨ib, 0, none⟩)), (5, [], .pointer (some ⟨ib, 0, none⟩)), (4, [], .pointer (some ⟨s, 0, none⟩)), (2, [], .pointer (some ⟨rs, 0, none⟩))]) (nd := (fun _ => [])) (by kernel_rfl) (fun _ => by kernel_rfl) trivial ?_
  refine CfgL.eff (o := _) rfl (by kernel_rfl) (by kernel_rfl) (Eff.callM (vs := [.pointer (some ⟨ib, 0, none⟩), .int .i64 24]) (.string (tx (p1 t).1)) 0 (b := ib) (ob := Obj.cells (inC (⟨0, t⟩)) 98 (0, 0)) (.cells (inC ((p1 t).2)) 98 (0, 0)) rfl Try.func26 rfl rfl (by kernel_rfl) (by kernel_rfl) (fun w1 h => wTText ib ⟨0, t⟩ 24 w1 (h.own (ib, Obj.cells (inC (⟨0, t⟩)) 98 (0, 0)) (show (ib, Obj.cells (inC (⟨0, t⟩)) 98 (0, 0)) ∈ [(ib, Obj.cells (inC (⟨0, t⟩)) 98 (0, 0)), (s, Obj.cells #[.string ByteArray.empty, .slice none 0 0, .slice none 0 0, .int .u64 0] 25 (0, 0)), (rs, Obj.cells #[.string ByteArray.empty, .slice none 0 0, .slice none 0 0, .int .u64 0] 25 (0, 0))] from (List.mem_of_getElem? (i := 0) rfl))) (by omega))) ?_
  rintro ⟨⟩ -
  refine CfgL.pure 1 [] none (Γ' := [(12, [], .pointer (some ⟨s, 0, none⟩)), (11, [], .string (tx (p1 t).1)), (10, [], .pointer (some ⟨ib, 0, none⟩)), (5, [], .pointer (some ⟨ib, 0, none⟩)), (4, [], .pointer (some ⟨s, 0, none⟩)), (2, [], .pointer (some ⟨rs, 0, none⟩))]) (nd := (fun _ => [])) (by kernel_rfl) (fun _ => by kernel_rfl) trivial ?_
  refine CfgL.eff (o := _) rfl (by kernel_rfl) (by kernel_rfl) (Eff.store1 (b := s) (off := 0) (v := .string (tx (p1 t).1)) rfl (by kernel_rfl) (by kernel_rfl) rfl (by kernel_rfl) 1 (cs := #[.string ByteArray.empty, .slice none 0 0, .slice none 0 0, .int .u64 0]) (e := 25) (by kernel_rfl) (by simp)) ?_
  rintro ⟨⟩ -
  refine CfgL.done rfl ?_
  refine Conv.cfg (Γ' := [(5, [], .pointer (some ⟨ib, 0, none⟩)), (4, [], .pointer (some ⟨s, 0, none⟩)), (2, [], .pointer (some ⟨rs, 0, none⟩))]) (Conv.mk (by kernel_rfl)) ?_
  refine Cfg.begL rfl ?_
  refine CfgL.pure 1 [] none (Γ' := [(13, [], .pointer (some ⟨ib, 0, none⟩)), (5, [], .pointer (some ⟨ib, 0, none⟩)), (4, [], .pointer (some ⟨s, 0, none⟩)), (2, [], .pointer (some ⟨rs, 0, none⟩))]) (nd := (fun _ => [])) (by kernel_rfl) (fun _ => by kernel_rfl) trivial ?_
  refine CfgL.eff (o := _) rfl (by kernel_rfl) (by kernel_rfl) (Eff.callMO (vs := [.pointer (some ⟨ib, 0, none⟩), .int .i64 16, .func (.func 28) #[] #[]]) 50 33 (p2 t).1.length (rv (p2 t).1) [] [(s, .cells (#[.string ByteArray.empty, .slice none 0 0, .slice none 0 0, .int .u64 0].setIfInBounds 0 (.string (tx (p1 t).1))) 25 (0, 0)), (rs, .cells #[.string ByteArray.empty, .slice none 0 0, .slice none 0 0, .int .u64 0] 25 (0, 0))] [] (b := ib) (ob := Obj.cells (inC ((p1 t).2)) 98 (0, 0)) (.cells (inC ((p2 t).2)) 98 (0, 0)) (by rfl) rfl Try.func27 rfl rfl (by kernel_rfl) (fun w1 h => wRowsR ib (p1 t).2 w1 (h.own (ib, Obj.cells (inC ((p1 t).2)) 98 (0, 0)) (show (ib, Obj.cells (inC ((p1 t).2)) 98 (0, 0)) ∈ [(ib, Obj.cells (inC ((p1 t).2)) 98 (0, 0)), (s, Obj.cells (#[.string ByteArray.empty, .slice none 0 0, .slice none 0 0, .int .u64 0].setIfInBounds 0 (.string (tx (p1 t).1))) 25 (0, 0)), (rs, Obj.cells #[.string ByteArray.empty, .slice none 0 0, .slice none 0 0, .int .u64 0] 25 (0, 0))] from (List.mem_of_getElem? (i := 0) rfl))))) ?_
  rintro o1 ko1
  refine CfgL.pure 1 [] none (Γ' := [(15, [], .pointer (some ⟨s, 1, none⟩)), (14, [], .slice (Own.a o1) ((p2 t).1.length) (Own.c o1)), (13, [], .pointer (some ⟨ib, 0, none⟩)), (5, [], .pointer (some ⟨ib, 0, none⟩)), (4, [], .pointer (some ⟨s, 0, none⟩)), (2, [], .pointer (some ⟨rs, 0, none⟩))]) (nd := (fun _ => [])) (by kernel_rfl) (fun _ => by kernel_rfl) trivial ?_
  refine CfgL.eff (o := _) rfl (by kernel_rfl) (by kernel_rfl) (Eff.store1 (b := s) (off := 1) (v := .slice (Own.a o1) ((p2 t).1.length) (Own.c o1)) rfl (by kernel_rfl) (by kernel_rfl) rfl (by kernel_rfl) 1 (cs := (#[.string ByteArray.empty, .slice none 0 0, .slice none 0 0, .int .u64 0].setIfInBounds 0 (.string (tx (p1 t).1)))) (e := 25) (by kernel_rfl) (by simp)) ?_
  rintro ⟨⟩ -
  refine CfgL.done rfl ?_
  refine Conv.cfg (Γ' := [(5, [], .pointer (some ⟨ib, 0, none⟩)), (4, [], .pointer (some ⟨s, 0, none⟩)), (2, [], .pointer (some ⟨rs, 0, none⟩))]) (Conv.mk (by kernel_rfl)) ?_
  refine Cfg.begL rfl ?_
  refine CfgL.pure 1 [] none (Γ' := [(16, [], .pointer (some ⟨ib, 0, none⟩)), (5, [], .pointer (some ⟨ib, 0, none⟩)), (4, [], .pointer (some ⟨s, 0, none⟩)), (2, [], .pointer (some ⟨rs, 0, none⟩))]) (nd := (fun _ => [])) (by kernel_rfl) (fun _ => by kernel_rfl) trivial ?_
  refine CfgL.eff (o := _) rfl (by kernel_rfl) (by kernel_rfl) (Eff.callMO (vs := [.pointer (some ⟨ib, 0, none⟩), .int .i64 16, .func (.func 28) #[] #[]]) 50 33 (p3 t).1.length (rv (p3 t).1) [] [(s, .cells ((#[.string ByteArray.empty, .slice none 0 0, .slice none 0 0, .int .u64 0].setIfInBounds 0 (.string (tx (p1 t).1))).setIfInBounds 1 (.slice (Own.a o1) ((p2 t).1.length) (Own.c o1))) 25 (0, 0)), (rs, .cells #[.string ByteArray.empty, .slice none 0 0, .slice none 0 0, .int .u64 0] 25 (0, 0))] ([] ++ (Own.o 50 (rv (p2 t).1) o1 ++ [])) (b := ib) (ob := Obj.cells (inC ((p2 t).2)) 98 (0, 0)) (.cells (inC ((p3 t).2)) 98 (0, 0)) (by rfl) rfl Try.func27 rfl rfl (by kernel_rfl) (fun w1 h => wRowsR ib (p2 t).2 w1 (h.own (ib, Obj.cells (inC ((p2 t).2)) 98 (0, 0)) (show (ib, Obj.cells (inC ((p2 t).2)) 98 (0, 0)) ∈ ([(ib, Obj.cells (inC ((p2 t).2)) 98 (0, 0)), (s, Obj.cells ((#[.string ByteArray.empty, .slice none 0 0, .slice none 0 0, .int .u64 0].setIfInBounds 0 (.string (tx (p1 t).1))).setIfInBounds 1 (.slice (Own.a o1) ((p2 t).1.length) (Own.c o1))) 25 (0, 0)), (rs, Obj.cells #[.string ByteArray.empty, .slice none 0 0, .slice none 0 0, .int .u64 0] 25 (0, 0))] ++ (Own.o 50 (rv (p2 t).1) o1 ++ [])) from (List.mem_append_left _ (List.mem_of_getElem? (i := 0) rfl)))))) ?_
  rintro o2 ko2
  refine CfgL.pure 1 [] none (Γ' := [(18, [], .pointer (some ⟨s, 2, none⟩)), (17, [], .slice (Own.a o2) ((p3 t).1.length) (Own.c o2)), (16, [], .pointer (some ⟨ib, 0, none⟩)), (5, [], .pointer (some ⟨ib, 0, none⟩)), (4, [], .pointer (some ⟨s, 0, none⟩)), (2, [], .pointer (some ⟨rs, 0, none⟩))]) (nd := (fun _ => [])) (by kernel_rfl) (fun _ => by kernel_rfl) trivial ?_
  refine CfgL.eff (o := _) rfl (by kernel_rfl) (by kernel_rfl) (Eff.store1 (b := s) (off := 2) (v := .slice (Own.a o2) ((p3 t).1.length) (Own.c o2)) rfl (by kernel_rfl) (by kernel_rfl) rfl (by kernel_rfl) 1 (cs := ((#[.string ByteArray.empty, .slice none 0 0, .slice none 0 0, .int .u64 0].setIfInBounds 0 (.string (tx (p1 t).1))).setIfInBounds 1 (.slice (Own.a o1) ((p2 t).1.length) (Own.c o1)))) (e := 25) (by kernel_rfl) (by simp)) ?_
  rintro ⟨⟩ -
  refine CfgL.done rfl ?_
  refine Conv.cfg (Γ' := [(5, [], .pointer (some ⟨ib, 0, none⟩)), (4, [], .pointer (some ⟨s, 0, none⟩)), (2, [], .pointer (some ⟨rs, 0, none⟩))]) (Conv.mk (by kernel_rfl)) ?_
  refine Cfg.begL rfl ?_
  refine CfgL.pure 1 [] none (Γ' := [(19, [], .pointer (some ⟨ib, 0, none⟩)), (5, [], .pointer (some ⟨ib, 0, none⟩)), (4, [], .pointer (some ⟨s, 0, none⟩)), (2, [], .pointer (some ⟨rs, 0, none⟩))]) (nd := (fun _ => [])) (by kernel_rfl) (fun _ => by kernel_rfl) trivial ?_
  refine CfgL.eff (o := _) rfl (by kernel_rfl) (by kernel_rfl) (Eff.callM (vs := [.pointer (some ⟨ib, 0, none⟩)]) (.int .u64 ((p4 t).1 : Int)) 0 (b := ib) (ob := Obj.cells (inC ((p3 t).2)) 98 (0, 0)) (.cells (inC ((p4 t).2)) 98 (0, 0)) rfl Try.func29 rfl rfl (by kernel_rfl) (by kernel_rfl) (fun w1 h => wTEight ib (p3 t).2 w1 (h.own (ib, Obj.cells (inC ((p3 t).2)) 98 (0, 0)) (show (ib, Obj.cells (inC ((p3 t).2)) 98 (0, 0)) ∈ ([(ib, Obj.cells (inC ((p3 t).2)) 98 (0, 0)), (s, Obj.cells (((#[.string ByteArray.empty, .slice none 0 0, .slice none 0 0, .int .u64 0].setIfInBounds 0 (.string (tx (p1 t).1))).setIfInBounds 1 (.slice (Own.a o1) ((p2 t).1.length) (Own.c o1))).setIfInBounds 2 (.slice (Own.a o2) ((p3 t).1.length) (Own.c o2))) 25 (0, 0)), (rs, Obj.cells #[.string ByteArray.empty, .slice none 0 0, .slice none 0 0, .int .u64 0] 25 (0, 0))] ++ (Own.o 50 (rv (p3 t).1) o2 ++ (Own.o 50 (rv (p2 t).1) o1 ++ []))) from (List.mem_append_left _ (List.mem_of_getElem? (i := 0) rfl)))))) ?_
  rintro ⟨⟩ -
  refine CfgL.pure 1 [] none (Γ' := [(21, [], .pointer (some ⟨s, 3, none⟩)), (20, [], .int .u64 ((p4 t).1 : Int)), (19, [], .pointer (some ⟨ib, 0, none⟩)), (5, [], .pointer (some ⟨ib, 0, none⟩)), (4, [], .pointer (some ⟨s, 0, none⟩)), (2, [], .pointer (some ⟨rs, 0, none⟩))]) (nd := (fun _ => [])) (by kernel_rfl) (fun _ => by kernel_rfl) trivial ?_
  refine CfgL.eff (o := _) rfl (by kernel_rfl) (by kernel_rfl) (Eff.store1 (b := s) (off := 3) (v := .int .u64 ((p4 t).1 : Int)) rfl (by kernel_rfl) (by kernel_rfl) rfl (by kernel_rfl) 1 (cs := (((#[.string ByteArray.empty, .slice none 0 0, .slice none 0 0, .int .u64 0].setIfInBounds 0 (.string (tx (p1 t).1))).setIfInBounds 1 (.slice (Own.a o1) ((p2 t).1.length) (Own.c o1))).setIfInBounds 2 (.slice (Own.a o2) ((p3 t).1.length) (Own.c o2)))) (e := 25) (by kernel_rfl) (by simp)) ?_
  rintro ⟨⟩ -
  refine CfgL.done rfl ?_
  refine Conv.cfg (Γ' := [(5, [], .pointer (some ⟨ib, 0, none⟩)), (4, [], .pointer (some ⟨s, 0, none⟩)), (2, [], .pointer (some ⟨rs, 0, none⟩))]) (Conv.mk (by kernel_rfl)) ?_
  refine Cfg.begL rfl ?_
  refine CfgL.pure 1 [] none (Γ' := [(22, [], .pointer (some ⟨ib, 0, none⟩)), (5, [], .pointer (some ⟨ib, 0, none⟩)), (4, [], .pointer (some ⟨s, 0, none⟩)), (2, [], .pointer (some ⟨rs, 0, none⟩))]) (nd := (fun _ => [])) (by kernel_rfl) (fun _ => by kernel_rfl) trivial ?_
  refine CfgL.eff (o := _) rfl (by kernel_rfl) (by kernel_rfl) (Eff.callA (vs := [.pointer (some ⟨ib, 0, none⟩)]) (.int .i64 (endF (p4 t).2)) rfl Try.func30 rfl rfl (by kernel_rfl) (fun w1 h => wEnd ib (p4 t).2 w1 (h.own (ib, Obj.cells (inC ((p4 t).2)) 98 (0, 0)) (show (ib, Obj.cells (inC ((p4 t).2)) 98 (0, 0)) ∈ ([(ib, Obj.cells (inC ((p4 t).2)) 98 (0, 0)), (s, Obj.cells ((((#[.string ByteArray.empty, .slice none 0 0, .slice none 0 0, .int .u64 0].setIfInBounds 0 (.string (tx (p1 t).1))).setIfInBounds 1 (.slice (Own.a o1) ((p2 t).1.length) (Own.c o1))).setIfInBounds 2 (.slice (Own.a o2) ((p3 t).1.length) (Own.c o2))).setIfInBounds 3 (.int .u64 ((p4 t).1 : Int))) 25 (0, 0)), (rs, Obj.cells #[.string ByteArray.empty, .slice none 0 0, .slice none 0 0, .int .u64 0] 25 (0, 0))] ++ (Own.o 50 (rv (p3 t).1) o2 ++ (Own.o 50 (rv (p2 t).1) o1 ++ []))) from (List.mem_append_left _ (List.mem_of_getElem? (i := 0) rfl)))))) ?_
  rintro ⟨⟩ -
  refine CfgL.pure 1 [] (some [2, 4, 6]) (Γ' := [(6, [], .int .i64 (endF (p4 t).2)), (4, [], .pointer (some ⟨s, 0, none⟩)), (2, [], .pointer (some ⟨rs, 0, none⟩))]) (nd := (fun _ => [])) (by kernel_rfl) (fun _ => by kernel_rfl) trivial ?_
  refine CfgL.done rfl ?_
  refine Cfg.reg rfl [2, 4, 6, 25] [] (Γ' := [(25, [], .bool ((endF (p4 t).2) != (0 : Int))), (6, [], .int .i64 (endF (p4 t).2)), (4, [], .pointer (some ⟨s, 0, none⟩)), (2, [], .pointer (some ⟨rs, 0, none⟩))]) (nd := (fun _ => [])) (fun _ => by kernel_rfl) trivial ?_
  refine Cfg.cond rfl (b := ((endF (p4 t).2) != (0 : Int))) (by kernel_rfl) (fun c1r => ?_) (fun c1r => ?_)
  · have c1 : ((endF (p4 t).2) ≠ (0 : Int)) := (bne_iff_ne.1 c1r)
    refine Cfg.begL rfl ?_
    refine CfgL.pure 2 [(0, false, some (.agg #[.string ByteArray.empty, .slice none 0 0, .slice none 0 0, .int .u64 0]))] none (Γ' := [(27, [], .int .i64 (endF (p4 t).2)), (26, [], .agg #[.string ByteArray.empty, .slice none 0 0, .slice none 0 0, .int .u64 0]), (25, [], .bool ((endF (p4 t).2) != (0 : Int))), (6, [], .int .i64 (endF (p4 t).2)), (4, [], .pointer (some ⟨s, 0, none⟩)), (2, [], .pointer (some ⟨rs, 0, none⟩))]) (nd := (fun S => [(∀ w1, S w1 → (Instr.build 25 #[]).run Try.prog w1 = .ok (.agg #[.string ByteArray.empty, .slice none 0 0, .slice none 0 0, .int .u64 0]) w1)])) (by kernel_rfl) (fun _ => by kernel_rfl) ⟨(fun _ _ => by kernel_rfl), trivial⟩ ?_
    refine CfgL.eff (o := _) rfl (by kernel_rfl) (by kernel_rfl) (Eff.storeN (b := rs) (off := 0) (vs := #[.string ByteArray.empty, .slice none 0 0, .slice none 0 0, .int .u64 0]) (n := 4) rfl (by kernel_rfl) (by kernel_rfl) (by kernel_rfl) rfl (four_one rfl rfl rfl rfl) 2 (cs := #[.string ByteArray.empty, .slice none 0 0, .slice none 0 0, .int .u64 0]) (e := 25) (by kernel_rfl) (Nat.le_refl 4)) ?_
    rintro ⟨⟩ -
    refine CfgL.setO (O' := ([(ib, .cells (inC ((p4 t).2)) 98 (0, 0)), (s, .cells ((((#[.string ByteArray.empty, .slice none 0 0, .slice none 0 0, .int .u64 0].setIfInBounds 0 (.string (tx (p1 t).1))).setIfInBounds 1 (.slice (Own.a o1) ((p2 t).1.length) (Own.c o1))).setIfInBounds 2 (.slice (Own.a o2) ((p3 t).1.length) (Own.c o2))).setIfInBounds 3 (.int .u64 ((p4 t).1 : Int))) 25 (0, 0)), (rs, .cells #[.string ByteArray.empty, .slice none 0 0, .slice none 0 0, .int .u64 0] 25 (0, 0))] ++ (Own.o 50 (rv (p3 t).1) o2 ++ (Own.o 50 (rv (p2 t).1) o1 ++ [])))) (congrArg (fun (xq : Array Value) => (([(ib, .cells (inC ((p4 t).2)) 98 (0, 0)), (s, .cells ((((#[.string ByteArray.empty, .slice none 0 0, .slice none 0 0, .int .u64 0].setIfInBounds 0 (.string (tx (p1 t).1))).setIfInBounds 1 (.slice (Own.a o1) ((p2 t).1.length) (Own.c o1))).setIfInBounds 2 (.slice (Own.a o2) ((p3 t).1.length) (Own.c o2))).setIfInBounds 3 (.int .u64 ((p4 t).1 : Int))) 25 (0, 0)), (rs, .cells xq 25 (0, 0))] ++ (Own.o 50 (rv (p3 t).1) o2 ++ (Own.o 50 (rv (p2 t).1) o1 ++ []))) : List (Nat × Obj))) (rfl)) ?_
    refine CfgL.pure 1 [] (some [2, 3]) (Γ' := [(3, [], .int .i64 (endF (p4 t).2)), (2, [], .pointer (some ⟨rs, 0, none⟩))]) (nd := (fun _ => [])) (by kernel_rfl) (fun _ => by kernel_rfl) trivial ?_
    refine CfgL.done rfl ?_
    refine Cfg.ret rfl (rs := [.cell 2 25, .tmp 3]) rfl [.agg #[.string ByteArray.empty, .slice none 0 0, .slice none 0 0, .int .u64 0], .int .i64 (endF (p4 t).2)] ⟨⟨_, by kernel_rfl, (fun w1 h => h.oload 2 rfl Try.underlying25 rfl (n := 4) (by kernel_rfl) rfl)⟩, by kernel_rfl, trivial⟩ (fun w1 hp => ?_)
    have hE : parseE t = endF (p4 t).2 := if_pos c1
    have hs : parseS t = RSt.z := if_neg (by rw [hE]; exact c1)
    rw [hE, hs]
    exact ⟨(none, none), ⟨OwnOk.none _, OwnOk.none _⟩, rfl, _, hp.sub (List.nil_sublist _)⟩
  · have c1 : ((endF (p4 t).2) = (0 : Int)) := (bne_eq_false_iff_eq.1 c1r)
    refine Cfg.begL rfl ?_
    refine CfgL.pure 1 [(0, false, some (.agg #[.string (tx (p1 t).1), .slice (Own.a o1) ((p2 t).1.length) (Own.c o1), .slice (Own.a o2) ((p3 t).1.length) (Own.c o2), .int .u64 ((p4 t).1 : Int)]))] none (Γ' := [(28, [], .agg #[.string (tx (p1 t).1), .slice (Own.a o1) ((p2 t).1.length) (Own.c o1), .slice (Own.a o2) ((p3 t).1.length) (Own.c o2), .int .u64 ((p4 t).1 : Int)]), (25, [], .bool ((endF (p4 t).2) != (0 : Int))), (6, [], .int .i64 (endF (p4 t).2)), (4, [], .pointer (some ⟨s, 0, none⟩)), (2, [], .pointer (some ⟨rs, 0, none⟩))]) (nd := (fun S => [(∀ w1, S w1 → (loadVar 25 ⟨s, 0, none⟩).run Try.prog w1 = .ok (.agg #[.string (tx (p1 t).1), .slice (Own.a o1) ((p2 t).1.length) (Own.c o1), .slice (Own.a o2) ((p3 t).1.length) (Own.c o2), .int .u64 ((p4 t).1 : Int)]) w1)])) (by kernel_rfl) (fun _ => by kernel_rfl) ⟨(fun w1 h => h.oload 1 rfl Try.underlying25 rfl (n := 4) (by kernel_rfl) rfl), trivial⟩ ?_
    refine CfgL.eff (o := _) rfl (by kernel_rfl) (by kernel_rfl) (Eff.callA (vs := [.agg #[.string (tx (p1 t).1), .slice (Own.a o1) ((p2 t).1.length) (Own.c o1), .slice (Own.a o2) ((p3 t).1.length) (Own.c o2), .int .u64 ((p4 t).1 : Int)]]) (.int .i64 (checkF (pS t))) rfl Try.func10 rfl rfl (by kernel_rfl) (fun w1 h => rCheckS (tx (p1 t).1) (Own.a o1) (Own.a o2) (Own.c o1) (Own.c o2) (p2 t).1 (p3 t).1 (p4 t).1 (Own.o 50 (rv (p2 t).1) o1 ++ Own.o 50 (rv (p3 t).1) o2) w1 ((inR_own ko1).mono (fun e he => List.mem_append_left _ he)) ((inR_own ko2).mono (fun e he => List.mem_append_right _ he)) hw1 hw2 (h.has (fun e he => show e ∈ ([(ib, Obj.cells (inC ((p4 t).2)) 98 (0, 0)), (s, Obj.cells ((((#[.string ByteArray.empty, .slice none 0 0, .slice none 0 0, .int .u64 0].setIfInBounds 0 (.string (tx (p1 t).1))).setIfInBounds 1 (.slice (Own.a o1) ((p2 t).1.length) (Own.c o1))).setIfInBounds 2 (.slice (Own.a o2) ((p3 t).1.length) (Own.c o2))).setIfInBounds 3 (.int .u64 ((p4 t).1 : Int))) 25 (0, 0)), (rs, Obj.cells #[.string ByteArray.empty, .slice none 0 0, .slice none 0 0, .int .u64 0] 25 (0, 0))] ++ (Own.o 50 (rv (p3 t).1) o2 ++ (Own.o 50 (rv (p2 t).1) o1 ++ []))) from by rcases List.mem_append.1 he with he | he; exact (List.mem_append_right _ (List.mem_append_right _ (List.mem_append_left _ he))); exact (List.mem_append_right _ (List.mem_append_left _ he)))) (Nat.le_trans hl1 (by decide)) (Nat.le_trans hl2 (by decide)) (nmP (p1 t).2) (nmP (p2 t).2) (by rw [tx_size]; exact nm1 t ht))) ?_
    rintro ⟨⟩ -
    refine CfgL.pure 1 [] (some [2, 4, 7]) (Γ' := [(7, [], .int .i64 (checkF (pS t))), (4, [], .pointer (some ⟨s, 0, none⟩)), (2, [], .pointer (some ⟨rs, 0, none⟩))]) (nd := (fun _ => [])) (by kernel_rfl) (fun _ => by kernel_rfl) trivial ?_
    refine CfgL.done rfl ?_
    refine Cfg.reg rfl [2, 4, 7, 31] [] (Γ' := [(31, [], .bool ((checkF (pS t)) != (0 : Int))), (7, [], .int .i64 (checkF (pS t))), (4, [], .pointer (some ⟨s, 0, none⟩)), (2, [], .pointer (some ⟨rs, 0, none⟩))]) (nd := (fun _ => [])) (fun _ => by kernel_rfl) trivial ?_
    refine Cfg.cond rfl (b := ((checkF (pS t)) != (0 : Int))) (by kernel_rfl) (fun c2r => ?_) (fun c2r => ?_)
    · have c2 : ((checkF (pS t)) ≠ (0 : Int)) := (bne_iff_ne.1 c2r)
      refine Cfg.begL rfl ?_
      refine CfgL.pure 2 [(0, false, some (.agg #[.string ByteArray.empty, .slice none 0 0, .slice none 0 0, .int .u64 0]))] none (Γ' := [(33, [], .int .i64 (checkF (pS t))), (32, [], .agg #[.string ByteArray.empty, .slice none 0 0, .slice none 0 0, .int .u64 0]), (31, [], .bool ((checkF (pS t)) != (0 : Int))), (7, [], .int .i64 (checkF (pS t))), (4, [], .pointer (some ⟨s, 0, none⟩)), (2, [], .pointer (some ⟨rs, 0, none⟩))]) (nd := (fun S => [(∀ w1, S w1 → (Instr.build 25 #[]).run Try.prog w1 = .ok (.agg #[.string ByteArray.empty, .slice none 0 0, .slice none 0 0, .int .u64 0]) w1)])) (by kernel_rfl) (fun _ => by kernel_rfl) ⟨(fun _ _ => by kernel_rfl), trivial⟩ ?_
      refine CfgL.eff (o := _) rfl (by kernel_rfl) (by kernel_rfl) (Eff.storeN (b := rs) (off := 0) (vs := #[.string ByteArray.empty, .slice none 0 0, .slice none 0 0, .int .u64 0]) (n := 4) rfl (by kernel_rfl) (by kernel_rfl) (by kernel_rfl) rfl (four_one rfl rfl rfl rfl) 2 (cs := #[.string ByteArray.empty, .slice none 0 0, .slice none 0 0, .int .u64 0]) (e := 25) (by kernel_rfl) (Nat.le_refl 4)) ?_
      rintro ⟨⟩ -
      refine CfgL.setO (O' := ([(ib, .cells (inC ((p4 t).2)) 98 (0, 0)), (s, .cells ((((#[.string ByteArray.empty, .slice none 0 0, .slice none 0 0, .int .u64 0].setIfInBounds 0 (.string (tx (p1 t).1))).setIfInBounds 1 (.slice (Own.a o1) ((p2 t).1.length) (Own.c o1))).setIfInBounds 2 (.slice (Own.a o2) ((p3 t).1.length) (Own.c o2))).setIfInBounds 3 (.int .u64 ((p4 t).1 : Int))) 25 (0, 0)), (rs, .cells #[.string ByteArray.empty, .slice none 0 0, .slice none 0 0, .int .u64 0] 25 (0, 0))] ++ (Own.o 50 (rv (p3 t).1) o2 ++ (Own.o 50 (rv (p2 t).1) o1 ++ [])))) (congrArg (fun (xq : Array Value) => (([(ib, .cells (inC ((p4 t).2)) 98 (0, 0)), (s, .cells ((((#[.string ByteArray.empty, .slice none 0 0, .slice none 0 0, .int .u64 0].setIfInBounds 0 (.string (tx (p1 t).1))).setIfInBounds 1 (.slice (Own.a o1) ((p2 t).1.length) (Own.c o1))).setIfInBounds 2 (.slice (Own.a o2) ((p3 t).1.length) (Own.c o2))).setIfInBounds 3 (.int .u64 ((p4 t).1 : Int))) 25 (0, 0)), (rs, .cells xq 25 (0, 0))] ++ (Own.o 50 (rv (p3 t).1) o2 ++ (Own.o 50 (rv (p2 t).1) o1 ++ []))) : List (Nat × Obj))) (rfl)) ?_
      refine CfgL.pure 1 [] (some [2, 3]) (Γ' := [(3, [], .int .i64 (checkF (pS t))), (2, [], .pointer (some ⟨rs, 0, none⟩))]) (nd := (fun _ => [])) (by kernel_rfl) (fun _ => by kernel_rfl) trivial ?_
      refine CfgL.done rfl ?_
      refine Cfg.ret rfl (rs := [.cell 2 25, .tmp 3]) rfl [.agg #[.string ByteArray.empty, .slice none 0 0, .slice none 0 0, .int .u64 0], .int .i64 (checkF (pS t))] ⟨⟨_, by kernel_rfl, (fun w1 h => h.oload 2 rfl Try.underlying25 rfl (n := 4) (by kernel_rfl) rfl)⟩, by kernel_rfl, trivial⟩ (fun w1 hp => ?_)
      have hE : parseE t = checkF (pS t) := if_neg (fun h => h c1)
      have hs : parseS t = RSt.z := if_neg (by rw [hE]; exact c2)
      rw [hE, hs]
      exact ⟨(none, none), ⟨OwnOk.none _, OwnOk.none _⟩, rfl, _, hp.sub (List.nil_sublist _)⟩
    · have c2 : ((checkF (pS t)) = (0 : Int)) := (bne_eq_false_iff_eq.1 c2r)
      refine Cfg.begL rfl ?_
      refine CfgL.pure 1 [(0, false, some (.agg #[.string (tx (p1 t).1), .slice (Own.a o1) ((p2 t).1.length) (Own.c o1), .slice (Own.a o2) ((p3 t).1.length) (Own.c o2), .int .u64 ((p4 t).1 : Int)]))] none (Γ' := [(34, [], .agg #[.string (tx (p1 t).1), .slice (Own.a o1) ((p2 t).1.length) (Own.c o1), .slice (Own.a o2) ((p3 t).1.length) (Own.c o2), .int .u64 ((p4 t).1 : Int)]), (31, [], .bool ((checkF (pS t)) != (0 : Int))), (7, [], .int .i64 (checkF (pS t))), (4, [], .pointer (some ⟨s, 0, none⟩)), (2, [], .pointer (some ⟨rs, 0, none⟩))]) (nd := (fun S => [(∀ w1, S w1 → (loadVar 25 ⟨s, 0, none⟩).run Try.prog w1 = .ok (.agg #[.string (tx (p1 t).1), .slice (Own.a o1) ((p2 t).1.length) (Own.c o1), .slice (Own.a o2) ((p3 t).1.length) (Own.c o2), .int .u64 ((p4 t).1 : Int)]) w1)])) (by kernel_rfl) (fun _ => by kernel_rfl) ⟨(fun w1 h => h.oload 1 rfl Try.underlying25 rfl (n := 4) (by kernel_rfl) rfl), trivial⟩ ?_
      refine CfgL.eff (o := _) rfl (by kernel_rfl) (by kernel_rfl) (Eff.storeN (b := rs) (off := 0) (vs := #[.string (tx (p1 t).1), .slice (Own.a o1) ((p2 t).1.length) (Own.c o1), .slice (Own.a o2) ((p3 t).1.length) (Own.c o2), .int .u64 ((p4 t).1 : Int)]) (n := 4) rfl (by kernel_rfl) (by kernel_rfl) (by kernel_rfl) rfl (four_one rfl rfl rfl rfl) 2 (cs := #[.string ByteArray.empty, .slice none 0 0, .slice none 0 0, .int .u64 0]) (e := 25) (by kernel_rfl) (Nat.le_refl 4)) ?_
      rintro ⟨⟩ -
      refine CfgL.setO (O' := ([(ib, .cells (inC ((p4 t).2)) 98 (0, 0)), (s, .cells ((((#[.string ByteArray.empty, .slice none 0 0, .slice none 0 0, .int .u64 0].setIfInBounds 0 (.string (tx (p1 t).1))).setIfInBounds 1 (.slice (Own.a o1) ((p2 t).1.length) (Own.c o1))).setIfInBounds 2 (.slice (Own.a o2) ((p3 t).1.length) (Own.c o2))).setIfInBounds 3 (.int .u64 ((p4 t).1 : Int))) 25 (0, 0)), (rs, .cells #[.string (tx (p1 t).1), .slice (Own.a o1) ((p2 t).1.length) (Own.c o1), .slice (Own.a o2) ((p3 t).1.length) (Own.c o2), .int .u64 ((p4 t).1 : Int)] 25 (0, 0))] ++ (Own.o 50 (rv (p3 t).1) o2 ++ (Own.o 50 (rv (p2 t).1) o1 ++ [])))) (congrArg (fun (xq : Array Value) => (([(ib, .cells (inC ((p4 t).2)) 98 (0, 0)), (s, .cells ((((#[.string ByteArray.empty, .slice none 0 0, .slice none 0 0, .int .u64 0].setIfInBounds 0 (.string (tx (p1 t).1))).setIfInBounds 1 (.slice (Own.a o1) ((p2 t).1.length) (Own.c o1))).setIfInBounds 2 (.slice (Own.a o2) ((p3 t).1.length) (Own.c o2))).setIfInBounds 3 (.int .u64 ((p4 t).1 : Int))) 25 (0, 0)), (rs, .cells xq 25 (0, 0))] ++ (Own.o 50 (rv (p3 t).1) o2 ++ (Own.o 50 (rv (p2 t).1) o1 ++ []))) : List (Nat × Obj))) (rfl)) ?_
      refine CfgL.pure 1 [] (some [2, 3]) (Γ' := [(3, [], .int .i64 0), (2, [], .pointer (some ⟨rs, 0, none⟩))]) (nd := (fun _ => [])) (by kernel_rfl) (fun _ => by kernel_rfl) trivial ?_
      refine CfgL.done rfl ?_
      refine Cfg.ret rfl (rs := [.cell 2 25, .tmp 3]) rfl [.agg #[.string (tx (p1 t).1), .slice (Own.a o1) ((p2 t).1.length) (Own.c o1), .slice (Own.a o2) ((p3 t).1.length) (Own.c o2), .int .u64 ((p4 t).1 : Int)], .int .i64 0] ⟨⟨_, by kernel_rfl, (fun w1 h => h.oload 2 rfl Try.underlying25 rfl (n := 4) (by kernel_rfl) rfl)⟩, by kernel_rfl, trivial⟩ (fun w1 hp => ?_)
      have hE : parseE t = 0 := (if_neg (fun h => h c1)).trans c2
      have hs : parseS t = pS t := if_pos hE
      have h9 := hp.sub (List.sublist_append_right _ _)
      exact parse_ret o1 o2 (tx (p1 t).1) (p2 t).1 (p3 t).1 ((p4 t).1 : Int) (hs.trans (pS_eq t)) hE ko1 ko2 h9

end Go.Proofs.Ytejgpniaoccpoaa
