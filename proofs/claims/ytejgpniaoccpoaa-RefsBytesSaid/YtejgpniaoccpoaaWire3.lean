/- wire: things taken off bytes. Conditions: the In is the call's own. -/
import Derived.Test.YtejgpniaoccpoaaWire2
import Derived.Test.YtejgpniaoccpoaaK14
namespace Go.Proofs.Ytejgpniaoccpoaa
open K
set_option linter.unusedVariables false

theorem byteLt (b : UInt8) : b.toNat < 256 := UInt8.toNat_lt b
/-- What is left to take, and the first error. -/
structure IN where
  er : Int
  rest : List UInt8
def inC (z : IN) : Array Value := #[.int .i64 z.er, .string (tx z.rest)]
def failF (z : IN) (e : Int) : IN := if z.er = 0 then ⟨e, z.rest⟩ else z
def nextF (z : IN) (n : Int) : List UInt8 × IN := if z.er ≠ 0 then ([], z) else if n < 0 ∨ n > (z.rest.length : Int) then ([], ⟨3, z.rest⟩) else (z.rest.take n.toNat, ⟨z.er, z.rest.drop n.toNat⟩)
theorem tx_take (l : List UInt8) (n : Nat) : (tx l).extract 0 n = tx (l.take n) := by
  apply ByteArray.ext
  apply Array.ext'
  rw [ByteArray.data_extract, Array.toList_extract, List.extract_eq_take_drop]
  simp [tx]
theorem tx_drop (l : List UInt8) (n : Nat) : (tx l).extract n (tx l).size = tx (l.drop n) := by
  apply ByteArray.ext
  apply Array.ext'
  rw [ByteArray.data_extract, Array.toList_extract, List.extract_eq_take_drop, tx_size]
  simp only [tx, List.take_of_length_le (show (l.drop n).length ≤ l.length - n by simp)]
theorem nextF_len (z : IN) (n : Nat) : (nextF z n).1.length ≤ n := by
  unfold nextF
  split
  · simp
  · split
    · simp
    · simp; omega
/-- The number that bytes are. -/
def vf (n : Nat) (b : UInt8) : Nat := n * 256 % 18446744073709551616 + b.toNat
def valF (l : List UInt8) : Nat := l.foldl vf 0
theorem vf_lt (n : Nat) (b : UInt8) : vf n b < 18446744073709551616 := by have := byteLt b; unfold vf; omega
theorem foldl_lt : ∀ (l : List UInt8) (n : Nat), n < 18446744073709551616 → l.foldl vf n < 18446744073709551616
  | [], n, h => h
  | b :: l, n, _ => foldl_lt l (vf n b) (vf_lt n b)
theorem valF_lt (l : List UInt8) : valF l < 18446744073709551616 := foldl_lt l 0 (by decide)
theorem or256 (a b : Nat) (hb : b < 256) : 256 * a ||| b = 256 * a + b := by
  have := Nat.two_pow_add_eq_or_of_lt (i := 8) (b := b) (by simpa using hb) a
  simpa using this.symm
theorem vf_or (n : Nat) (b : UInt8) : ((((n : Int) * 256) % 18446744073709551616).toNat ||| b.toNat) = vf n b := by
  have := byteLt b
  rw [show (((n : Int) * 256) % 18446744073709551616).toNat = 256 * (n % 72057594037927936) by omega, or256 _ _ this]
  unfold vf; omega
def gb (l : List UInt8) (i : Nat) : UInt8 := l.getD i 0
theorem val_succ {l : List UInt8} {i : Nat} (h : i < l.length) : valF (l.take (i + 1)) = vf (valF (l.take i)) (gb l i) := by
  unfold valF
  rw [List.take_succ_eq_append_getElem h, List.foldl_append]
  simp [gb, List.getElem?_eq_getElem h]
def byteF (z : IN) : Nat × IN := (valF (nextF z 1).1 % 256, (nextF z 1).2)
def fourF (z : IN) : Nat × IN := (valF (nextF z 4).1 % 4294967296, (nextF z 4).2)
def eightF (z : IN) : Nat × IN := (valF (nextF z 8).1, (nextF z 8).2)
def boundF (z : IN) (most e : Int) : Nat × IN := if (fourF z).1 > (if 0 > most then 0 else most).toNat then (0, failF (fourF z).2 e) else fourF z
theorem fourF_lt (z : IN) : (fourF z).1 < 4294967296 := Nat.mod_lt _ (by decide)
theorem boundF_lt (z : IN) (most e : Int) : (boundF z most e).1 < 4294967296 := by
  have h1 := fourF_lt z
  unfold boundF
  generalize (if 0 > most then 0 else most) = m
  split
  · show 0 < 4294967296; decide
  · exact h1
def textF (z : IN) (most : Int) : List UInt8 × IN := nextF (boundF z most 5).2 ((boundF z most 5).1 : Nat)
def dig32 (l : List UInt8) : List UInt8 := if l.length = 32 then l else List.replicate 32 0
theorem dig32_len (l : List UInt8) : (dig32 l).length = 32 := by unfold dig32; split <;> simp_all
def digF (z : IN) : List UInt8 × IN := (dig32 (nextF z 32).1, (nextF z 32).2)
def endF (z : IN) : Int := if z.er ≠ 0 then z.er else if (z.rest.length : Int) > 0 then 4 else 0
theorem next_none (z : IN) (n : Int) : (nextF z n).1 = [] ∨ (nextF z n).1.length = n.toNat := by
  unfold nextF
  split
  · exact .inl rfl
  · split
    · exact .inl rfl
    · right; simp; omega
theorem dig_spl {l : List UInt8} (h : l = [] ∨ l.length = 32) {m : Nat} (hm : m = min l.length 32) : spl (bv (List.replicate 32 0)) 0 (bv (l.take m)).toList = bv (dig32 l) := by
  rcases h with h | h
  · subst h; simp [dig32, bv, spl]
  · rw [hm, h, Nat.min_self, List.take_of_length_le (by omega), show dig32 l = l from if_pos h]
    exact spl_all (by rw [bv_size, bv_size, h]; rfl)
theorem sbyte_gb (l : List UInt8) (i : Nat) : sbyte (tx l) (i : Int) = ((gb l i).toNat : Int) := rfl

set_option maxRecDepth 100000 in
theorem wOf (l : List UInt8) (w : World) :
    Calls Try.prog 25 #[.string (tx l)] w fun e w' => ∃ b : Nat, True ∧ e = .returned (.pointer (some ⟨b, 0, none⟩)) ∧ w.heap.size ≤ b ∧ w'.heap[b]? = some (.cells (inC ⟨0, l⟩) 98 (0, 0)) ∧ Ext [] w w' := by
  refine enter (vs := [.string (tx l)]) [] [] [] Try.func25 rfl (by kernel_rfl) (HP.start w) ?_
  refine Cfg.reg rfl [0] [] (Γ' := [(0, [], .string (tx l))]) (nd := (fun _ => [])) (fun _ => by kernel_rfl) trivial ?_
  refine Cfg.begL rfl ?_
  refine CfgL.pure 2 [(0, false, none), (0, false, some (.agg (inC ⟨0, l⟩)))] none (Γ' := [(4, [], .agg (inC ⟨0, l⟩)), (3, [], .string (tx l)), (0, [], .string (tx l))]) (nd := (fun S => [(∀ w1, S w1 → (Instr.build 98 #[(1, .string (tx l))]).run Try.prog w1 = .ok (.agg (inC ⟨0, l⟩)) w1)])) (by kernel_rfl) (fun _ => by kernel_rfl) ⟨(fun _ _ => by kernel_rfl), trivial⟩ ?_
  refine CfgL.eff (o := _) rfl (by kernel_rfl) (by kernel_rfl) (Eff.box (v := .agg (inC ⟨0, l⟩)) rfl (by kernel_rfl)) ?_
  rintro b1 ⟨hb1, nb1⟩
  refine CfgL.pure 1 [] (some [2]) (Γ' := [(2, [], .pointer (some ⟨b1, 0, none⟩))]) (nd := (fun _ => [])) (by kernel_rfl) (fun _ => by kernel_rfl) trivial ?_
  refine CfgL.done rfl ?_
  refine Cfg.ret rfl (rs := [.tmp 2]) rfl [.pointer (some ⟨b1, 0, none⟩)] ⟨by kernel_rfl, trivial⟩ (fun w1 hp => ?_)
  exact ⟨b1, trivial, rfl, hb1, hp.own (b1, _) (List.mem_cons_self ..), hp.ext⟩

set_option maxRecDepth 100000 in
theorem wFailed (b : Nat) (z : IN) (w : World) (hB : w.heap[b]? = some (.cells (inC z) 98 (0, 0))) :
    Calls Try.prog 72 #[.pointer (some ⟨b, 0, none⟩)] w fun e w' => e = .returned (.bool (z.er != (0 : Int))) ∧ Ext [] w w' := by
  refine enter (vs := [.pointer (some ⟨b, 0, none⟩)]) [] [(b, .cells (inC z) 98 (0, 0))] [] Try.func72 rfl (by kernel_rfl) (HP.ofHas (fun e he => by rw [List.mem_singleton.1 he]; exact hB)) ?_
  refine Cfg.reg rfl [0] [] (Γ' := [(0, [], .pointer (some ⟨b, 0, none⟩))]) (nd := (fun _ => [])) (fun _ => by kernel_rfl) trivial ?_
  refine Cfg.reg rfl [2] [(0, false, none), (0, false, none), (0, false, none), (0, false, some (.int .i64 z.er))] (Γ' := [(2, [], .bool (z.er != (0 : Int)))]) (nd := (fun S => [(∀ w1, S w1 → w1.cell? ⟨b, 0, none⟩ = some (.int .i64 z.er))])) (fun _ => by kernel_rfl) ⟨(fun w1 h => h.rcell 0 rfl rfl), trivial⟩ ?_
  refine Cfg.ret rfl (rs := [.tmp 2]) rfl [.bool (z.er != (0 : Int))] ⟨by kernel_rfl, trivial⟩ (fun w1 hp => ?_)
  exact ⟨rfl, hp.ext⟩

set_option maxRecDepth 100000 in
theorem wNote (b : Nat) (z : IN) (x : Int) (w : World) (hB : w.heap[b]? = some (.cells (inC z) 98 (0, 0))) :
    Calls Try.prog 73 #[.pointer (some ⟨b, 0, none⟩), .int .i64 x] w fun e w' => e = .returned (.tuple #[]) ∧ Ext [b] w w' ∧ w'.heap[b]? = some (.cells (inC (failF z x)) 98 (0, 0)) := by
  refine enter (vs := [.pointer (some ⟨b, 0, none⟩), .int .i64 x]) [b] [] [(b, .cells (inC z) 98 (0, 0))] Try.func73 rfl (by kernel_rfl) (HP.startM (R := []) (fun _ h => by cases h) hB (by simp)) ?_
  refine Cfg.reg rfl [0, 1, 8] [(0, false, none), (0, false, none), (0, false, none), (0, false, some (.int .i64 z.er))] (Γ' := [(8, [], .bool (z.er == (0 : Int))), (0, [], .pointer (some ⟨b, 0, none⟩)), (1, [], .int .i64 x)]) (nd := (fun S => [(∀ w1, S w1 → w1.cell? ⟨b, 0, none⟩ = some (.int .i64 z.er))])) (fun _ => by kernel_rfl) ⟨(fun w1 h => h.ocell 0 rfl rfl), trivial⟩ ?_
  refine Cfg.cond rfl (b := (z.er == (0 : Int))) (by kernel_rfl) (fun c1r => ?_) (fun c1r => ?_)
  · have c1 : (z.er = (0 : Int)) := (beq_iff_eq.1 c1r)
    refine Cfg.begL rfl ?_
    refine CfgL.pure 4 [] none (Γ' := [(12, [], .pointer (some ⟨b, 0, none⟩)), (11, [], .pointer (some ⟨b, 0, none⟩)), (10, [], .int .i64 x), (9, [], .pointer (some ⟨b, 0, none⟩)), (8, [], .bool (z.er == (0 : Int))), (0, [], .pointer (some ⟨b, 0, none⟩)), (1, [], .int .i64 x)]) (nd := (fun _ => [])) (by kernel_rfl) (fun _ => by kernel_rfl) trivial ?_
    refine CfgL.eff (o := _) rfl (by kernel_rfl) (by kernel_rfl) (Eff.store1 (b := b) (off := 0) (v := .int .i64 x) rfl (by kernel_rfl) (by kernel_rfl) rfl (by kernel_rfl) 0 (cs := (inC z)) (e := 98) (by kernel_rfl) (by simp [inC])) ?_
    rintro ⟨⟩ -
    refine CfgL.done rfl ?_
    refine Conv.cfg (Γ' := []) (Conv.mk (by kernel_rfl)) ?_
    refine Cfg.fin rfl (rs := []) rfl [] trivial (fun w1 hp => ?_)
    exact ⟨rfl, hp.ext, (show failF z x = ⟨x, z.rest⟩ from if_pos c1).symm ▸ hp.own (b, _) (List.mem_cons_self ..)⟩
  · have c1 : (z.er ≠ (0 : Int)) := (beq_eq_false_iff_ne.1 c1r)
    refine Cfg.fin rfl (rs := []) rfl [] trivial (fun w1 hp => ?_)
    exact ⟨rfl, hp.ext, (show failF z x = z from if_neg c1).symm ▸ hp.own (b, _) (List.mem_cons_self ..)⟩

set_option maxRecDepth 100000 in
theorem wNext (b : Nat) (z : IN) (n : Int) (w : World) (hB : w.heap[b]? = some (.cells (inC z) 98 (0, 0))) :
    Calls Try.prog 53 #[.pointer (some ⟨b, 0, none⟩), .int .i64 n] w fun e w' => e = .returned (.string (tx (nextF z n).1)) ∧ Ext [b] w w' ∧ w'.heap[b]? = some (.cells (inC (nextF z n).2) 98 (0, 0)) := by
  have hts := tx_size z.rest
  refine enter (vs := [.pointer (some ⟨b, 0, none⟩), .int .i64 n]) [b] [] [(b, .cells (inC z) 98 (0, 0))] Try.func53 rfl (by kernel_rfl) (HP.startM (R := []) (fun _ h => by cases h) hB (by simp)) ?_
  refine Cfg.reg rfl [0, 1] [] (Γ' := [(0, [], .pointer (some ⟨b, 0, none⟩)), (1, [], .int .i64 n)]) (nd := (fun _ => [])) (fun _ => by kernel_rfl) trivial ?_
  refine Cfg.begL rfl ?_
  refine CfgL.pure 6 [(0, false, none), (0, false, none), (0, false, none), (1, false, none), (1, false, none), (1, false, none)] none (Γ' := [(11, [], .pointer (some ⟨b, 0, none⟩)), (10, [], .pointer (some ⟨b, 0, none⟩)), (9, [], .pointer (some ⟨b, 0, none⟩)), (8, [], .bool false), (7, [], .bool false), (6, [], .pointer (some ⟨b, 0, none⟩)), (0, [], .pointer (some ⟨b, 0, none⟩)), (1, [], .int .i64 n)]) (nd := (fun _ => [((.bool false : Value) = .bool false), ((.bool false : Value) = .bool false), ((.bool false : Value) = .bool false)])) (by kernel_rfl) (fun _ => by kernel_rfl) ⟨rfl, rfl, rfl, trivial⟩ ?_
  refine CfgL.eff (o := _) rfl (by kernel_rfl) (by kernel_rfl) (Eff.callA (vs := [.pointer (some ⟨b, 0, none⟩)]) (.bool (z.er != (0 : Int))) rfl Try.func72 rfl rfl (by kernel_rfl) (fun w1 h => wFailed b z w1 (h.own (b, _) (List.mem_of_getElem? (i := 0) rfl)))) ?_
  rintro ⟨⟩ -
  refine CfgL.pure 1 [] (some [0, 1, 13]) (Γ' := [(13, [], .bool (z.er != (0 : Int))), (0, [], .pointer (some ⟨b, 0, none⟩)), (1, [], .int .i64 n)]) (nd := (fun _ => [])) (by kernel_rfl) (fun _ => by kernel_rfl) trivial ?_
  refine CfgL.done rfl ?_
  refine Cfg.cond rfl (b := (z.er != (0 : Int))) (by kernel_rfl) (fun c1r => ?_) (fun c1r => ?_)
  · have c1 : (z.er ≠ (0 : Int)) := (bne_iff_ne.1 c1r)
    refine Cfg.reg rfl [4] [] (Γ' := [(4, [], .string ⟨#[]⟩)]) (nd := (fun _ => [])) (fun _ => by kernel_rfl) trivial ?_
    refine Cfg.ret rfl (rs := [.tmp 4]) rfl [.string ⟨#[]⟩] ⟨by kernel_rfl, trivial⟩ (fun w1 hp => ?_)
    have hx : nextF z n = ([], z) := if_pos c1
    rw [hx]
    exact ⟨rfl, hp.ext, hp.own (b, _) (List.mem_cons_self ..)⟩
  · have c1 : (z.er = (0 : Int)) := (bne_eq_false_iff_eq.1 c1r)
    refine Cfg.reg rfl [0, 1, 24] [(0, false, none), (0, false, none), (0, false, none), (0, false, none), (0, false, none), (0, false, none), (0, false, none), (0, false, some (.string (tx z.rest)))] (Γ' := [(24, [], .bool ((decide (n < (0 : Int))) || (decide (n > ((tx z.rest).size : Int))))), (0, [], .pointer (some ⟨b, 0, none⟩)), (1, [], .int .i64 n)]) (nd := (fun S => [((.bool (decide (n < (0 : Int))) : Value) = .bool false → (∀ w1, S w1 → w1.cell? ⟨b, 1, none⟩ = some (.string (tx z.rest))))])) (fun _ => by kernel_rfl) ⟨(fun g0 => have q0 : (¬ (n < (0 : Int))) := (of_decide_eq_false (boolV g0)); (fun w1 h => h.ocell 0 rfl rfl)), trivial⟩ ?_
    refine Cfg.cond rfl (b := ((decide (n < (0 : Int))) || (decide (n > ((tx z.rest).size : Int))))) (by kernel_rfl) (fun c2r => ?_) (fun c2r => ?_)
    · have c2 : ((n < (0 : Int)) ∨ (n > ((tx z.rest).size : Int))) := ((orT c2r).elim (fun h => Or.inl (of_decide_eq_true h)) (fun h => Or.inr (of_decide_eq_true h)))
      refine Cfg.begL rfl ?_
      refine CfgL.pure 3 [] none (Γ' := [(27, [], .pointer (some ⟨b, 0, none⟩)), (26, [], .pointer (some ⟨b, 0, none⟩)), (25, [], .pointer (some ⟨b, 0, none⟩)), (24, [], .bool ((decide (n < (0 : Int))) || (decide (n > ((tx z.rest).size : Int))))), (0, [], .pointer (some ⟨b, 0, none⟩)), (1, [], .int .i64 n)]) (nd := (fun _ => [])) (by kernel_rfl) (fun _ => by kernel_rfl) trivial ?_
      refine CfgL.eff (o := _) rfl (by kernel_rfl) (by kernel_rfl) (Eff.callM (vs := [.pointer (some ⟨b, 0, none⟩), .int .i64 3]) (.tuple #[]) 0 (b := b) (ob := .cells (inC z) 98 (0, 0)) (.cells (inC (failF z (3 : Int))) 98 (0, 0)) rfl Try.func73 rfl rfl (by kernel_rfl) (by kernel_rfl) (fun w1 h => wNote b z (3 : Int) w1 (h.own (b, _) (List.mem_of_getElem? (i := 0) rfl)))) ?_
      rintro ⟨⟩ -
      refine CfgL.done rfl ?_
      refine Conv.cfg (Γ' := []) (Conv.mk (by kernel_rfl)) ?_
      refine Cfg.reg rfl [4] [] (Γ' := [(4, [], .string ⟨#[]⟩)]) (nd := (fun _ => [])) (fun _ => by kernel_rfl) trivial ?_
      refine Cfg.ret rfl (rs := [.tmp 4]) rfl [.string ⟨#[]⟩] ⟨by kernel_rfl, trivial⟩ (fun w1 hp => ?_)
      have hx : nextF z n = ([], ⟨3, z.rest⟩) := (if_neg (by omega)).trans (if_pos (by omega))
      have hf : failF z (3 : Int) = ⟨3, z.rest⟩ := if_pos (by omega)
      rw [hx]
      exact ⟨rfl, hp.ext, hf ▸ hp.own (b, _) (List.mem_cons_self ..)⟩
    · have c2 : ((¬ (n < (0 : Int))) ∧ (¬ (n > ((tx z.rest).size : Int)))) := ⟨(of_decide_eq_false (orF1 c2r)), (of_decide_eq_false (orF2 c2r))⟩
      refine Cfg.reg rfl [0, 1, 5] [(0, false, none), (0, false, none), (0, false, none), (0, false, some (.string (tx z.rest)))] (Γ' := [(5, [], .string ((tx z.rest).extract 0 ((n).toNat))), (0, [], .pointer (some ⟨b, 0, none⟩)), (1, [], .int .i64 n)]) (nd := (fun S => [(∀ w1, S w1 → w1.cell? ⟨b, 1, none⟩ = some (.string (tx z.rest))), (0 ≤ n), (0 ≤ (n).toNat ∧ (n).toNat ≤ (tx z.rest).size)])) (fun _ => by kernel_rfl) ⟨(fun w1 h => h.ocell 0 rfl rfl), (by omega), (by omega), trivial⟩ ?_
      refine Cfg.begL rfl ?_
      refine CfgL.pure 9 [(0, false, none), (0, false, none), (0, false, none), (0, false, none), (0, false, some (.string (tx z.rest)))] none (Γ' := [(43, [], .pointer (some ⟨b, 1, none⟩)), (42, [], .pointer (some ⟨b, 0, none⟩)), (41, [], .string ((tx z.rest).extract ((n).toNat) ((tx z.rest).size))), (40, [], .int .i64 n), (39, [], .string (tx z.rest)), (38, [], .pointer (some ⟨b, 1, none⟩)), (37, [], .pointer (some ⟨b, 0, none⟩)), (36, [], .pointer (some ⟨b, 0, none⟩)), (35, [], .pointer (some ⟨b, 0, none⟩)), (5, [], .string ((tx z.rest).extract 0 ((n).toNat))), (0, [], .pointer (some ⟨b, 0, none⟩)), (1, [], .int .i64 n)]) (nd := (fun S => [(∀ w1, S w1 → w1.cell? ⟨b, 1, none⟩ = some (.string (tx z.rest))), (0 ≤ n), ((n).toNat ≤ (tx z.rest).size ∧ (tx z.rest).size ≤ (tx z.rest).size)])) (by kernel_rfl) (fun _ => by kernel_rfl) ⟨(fun w1 h => h.ocell 0 rfl rfl), (by omega), (by omega), trivial⟩ ?_
      refine CfgL.eff (o := _) rfl (by kernel_rfl) (by kernel_rfl) (Eff.store1 (b := b) (off := 1) (v := .string ((tx z.rest).extract ((n).toNat) ((tx z.rest).size))) rfl (by kernel_rfl) (by kernel_rfl) rfl (by kernel_rfl) 0 (cs := (inC z)) (e := 98) (by kernel_rfl) (by simp [inC])) ?_
      rintro ⟨⟩ -
      refine CfgL.done rfl ?_
      refine Conv.cfg (Γ' := [(5, [], .string ((tx z.rest).extract 0 ((n).toNat)))]) (Conv.mk (by kernel_rfl)) ?_
      refine Cfg.reg rfl [4] [] (Γ' := [(4, [], .string ((tx z.rest).extract 0 ((n).toNat)))]) (nd := (fun _ => [])) (fun _ => by kernel_rfl) trivial ?_
      refine Cfg.ret rfl (rs := [.tmp 4]) rfl [.string ((tx z.rest).extract 0 ((n).toNat))] ⟨by kernel_rfl, trivial⟩ (fun w1 hp => ?_)
      have hx : nextF z n = (z.rest.take n.toNat, ⟨z.er, z.rest.drop n.toNat⟩) := (if_neg (by omega)).trans (if_neg (by omega))
      rw [hx]
      exact ⟨by rw [tx_take]; rfl, hp.ext, by show w1.heap[b]? = some (.cells #[.int .i64 z.er, .string (tx (z.rest.drop n.toNat))] 98 (0, 0)); rw [← tx_drop]; exact hp.own (b, _) (List.mem_cons_self ..)⟩

set_option maxRecDepth 100000 in
theorem wValue (l : List UInt8) (w : World) (hl : l.length ≤ 9223372036854775807) :
    Calls Try.prog 58 #[.string (tx l)] w fun e w' => e = .returned (.int .u64 (valF l : Int)) ∧ Ext [] w w' := by
  have hts := tx_size l
  refine enter (vs := [.string (tx l)]) [] [] [] Try.func58 rfl (by kernel_rfl) (HP.start w) ?_
  refine Cfg.reg rfl [0] [] (Γ' := [(0, [], .string (tx l))]) (nd := (fun _ => [])) (fun _ => by kernel_rfl) trivial ?_
  refine Cfg.reg rfl [0, 3] [] (Γ' := [(3, [], .int .u64 0), (0, [], .string (tx l))]) (nd := (fun _ => [])) (fun _ => by kernel_rfl) trivial ?_
  refine Cfg.reg rfl [0, 3, 6, 7] [] (Γ' := [(7, [], .int .i64 0), (6, [], .int .i64 ((tx l).size : Int)), (3, [], .int .u64 0), (0, [], .string (tx l))]) (nd := (fun _ => [])) (fun _ => by kernel_rfl) trivial ?_
  refine Cfg.loop rfl (ι := Nat) (fun (i : Nat) => [(7, [], .int .i64 (i : Int)), (6, [], .int .i64 ((tx l).size : Int)), (3, [], .int .u64 ((valF (l.take i)) : Int)), (0, [], .string (tx l))]) (fun (i : Nat) => []) (fun (i : Nat) => (i ≤ l.length)) (fun (i : Nat) => l.length - i) 0 ?_ (Conv.mk (by kernel_rfl)) .slnil ?_
  · exact Nat.zero_le _
  · rintro i hi
    refine Cfg.reg rfl [0, 3, 6, 7, 8] [] (Γ' := [(8, [], .bool (decide ((i : Int) < ((tx l).size : Int)))), (7, [], .int .i64 (i : Int)), (6, [], .int .i64 ((tx l).size : Int)), (3, [], .int .u64 ((valF (l.take i)) : Int)), (0, [], .string (tx l))]) (nd := (fun _ => [])) (fun _ => by kernel_rfl) trivial ?_
    refine Cfg.cond rfl (b := (decide ((i : Int) < ((tx l).size : Int)))) (by kernel_rfl) (fun c1r => ?_) (fun c1r => ?_)
    · have c1 : ((i : Int) < ((tx l).size : Int)) := (of_decide_eq_true c1r)
      refine Cfg.reg rfl [0, 3, 4, 6, 7] [] (Γ' := [(4, [], .int .i64 (i : Int)), (7, [], .int .i64 (i : Int)), (6, [], .int .i64 ((tx l).size : Int)), (3, [], .int .u64 ((valF (l.take i)) : Int)), (0, [], .string (tx l))]) (nd := (fun _ => [])) (fun _ => by kernel_rfl) trivial ?_
      refine Cfg.reg rfl [0, 3, 6, 7] [] (Γ' := [(3, [], .int .u64 (((((((valF (l.take i)) : Int) * 256) % 18446744073709551616)).toNat ||| ((sbyte (tx l) (i : Int))).toNat : Nat) : Int)), (7, [], .int .i64 (i : Int)), (6, [], .int .i64 ((tx l).size : Int)), (0, [], .string (tx l))]) (nd := (fun _ => [(0 ≤ (8 : Int) ∧ 8 ≤ 64), (0 ≤ (i : Int) ∧ (i : Int) < ((tx l).size : Int)), ((0 : Int) ≤ (sbyte (tx l) (i : Int)) ∧ (sbyte (tx l) (i : Int)) ≤ 18446744073709551615), ((0 ≤ ((((valF (l.take i)) : Int) * 256) % 18446744073709551616) ∧ ((((valF (l.take i)) : Int) * 256) % 18446744073709551616) ≤ 18446744073709551615) ∧ 0 ≤ (sbyte (tx l) (i : Int)) ∧ (sbyte (tx l) (i : Int)) ≤ 18446744073709551615)])) (fun _ => by kernel_rfl) ⟨(by omega), (by omega), (by have := byteLt (gb l i); have := valF_lt (l.take i); have := sbyte_gb l i; omega), (by have := byteLt (gb l i); have := valF_lt (l.take i); have := sbyte_gb l i; omega), trivial⟩ ?_
      refine Cfg.reg rfl [0, 3, 6, 7] [] (Γ' := [(7, [], .int .i64 ((i : Int) + 1)), (3, [], .int .u64 (((((((valF (l.take i)) : Int) * 256) % 18446744073709551616)).toNat ||| ((sbyte (tx l) (i : Int))).toNat : Nat) : Int)), (6, [], .int .i64 ((tx l).size : Int)), (0, [], .string (tx l))]) (nd := (fun _ => [((-9223372036854775808 : Int) ≤ ((i : Int) + 1) ∧ ((i : Int) + 1) ≤ 9223372036854775807)])) (fun _ => by kernel_rfl) ⟨(by omega), trivial⟩ ?_
      refine Cfg.setG (Γ' := [(7, [], .int .i64 ((i : Int) + 1)), (3, [], .int .u64 ((valF (l.take (i + 1))) : Int)), (6, [], .int .i64 ((tx l).size : Int)), (0, [], .string (tx l))]) (congrArg (fun (xq : Int) => ([(7, [], .int .i64 ((i : Int) + 1)), (3, [], .int .u64 xq), (6, [], .int .i64 ((tx l).size : Int)), (0, [], .string (tx l))] : Env)) (by rw [val_succ (by omega), ← vf_or, sbyte_gb]; rfl)) ?_
      refine Cfg.again rfl (i + 1) (show i + 1 ≤ l.length by omega) (by omega) (Conv.mk (by kernel_rfl)) .slnil
    · have c1 : (¬ ((i : Int) < ((tx l).size : Int))) := (of_decide_eq_false c1r)
      refine Cfg.reg rfl [2] [] (Γ' := [(2, [], .int .u64 ((valF (l.take i)) : Int))]) (nd := (fun _ => [])) (fun _ => by kernel_rfl) trivial ?_
      refine Cfg.ret rfl (rs := [.tmp 2]) rfl [.int .u64 ((valF (l.take i)) : Int)] ⟨by kernel_rfl, trivial⟩ (fun w1 hp => ?_)
      exact ⟨by rw [show l.take i = l from List.take_of_length_le (by omega)]; rfl, hp.ext⟩

set_option maxRecDepth 100000 in
theorem wTFour (b : Nat) (z : IN) (w : World) (hB : w.heap[b]? = some (.cells (inC z) 98 (0, 0))) :
    Calls Try.prog 74 #[.pointer (some ⟨b, 0, none⟩)] w fun e w' => e = .returned (.int .u32 ((fourF z).1 : Int)) ∧ Ext [b] w w' ∧ w'.heap[b]? = some (.cells (inC (fourF z).2) 98 (0, 0)) := by
  refine enter (vs := [.pointer (some ⟨b, 0, none⟩)]) [b] [] [(b, .cells (inC z) 98 (0, 0))] Try.func74 rfl (by kernel_rfl) (HP.startM (R := []) (fun _ h => by cases h) hB (by simp)) ?_
  refine Cfg.reg rfl [0] [] (Γ' := [(0, [], .pointer (some ⟨b, 0, none⟩))]) (nd := (fun _ => [])) (fun _ => by kernel_rfl) trivial ?_
  refine Cfg.begL rfl ?_
  refine CfgL.pure 1 [] none (Γ' := [(3, [], .pointer (some ⟨b, 0, none⟩)), (0, [], .pointer (some ⟨b, 0, none⟩))]) (nd := (fun _ => [])) (by kernel_rfl) (fun _ => by kernel_rfl) trivial ?_
  refine CfgL.eff (o := _) rfl (by kernel_rfl) (by kernel_rfl) (Eff.callM (vs := [.pointer (some ⟨b, 0, none⟩), .int .i64 4]) (.string (tx (nextF z (4 : Int)).1)) 0 (b := b) (ob := .cells (inC z) 98 (0, 0)) (.cells (inC ((nextF z (4 : Int)).2)) 98 (0, 0)) rfl Try.func53 rfl rfl (by kernel_rfl) (by kernel_rfl) (fun w1 h => wNext b z (4 : Int) w1 (h.own (b, _) (List.mem_of_getElem? (i := 0) rfl)))) ?_
  rintro ⟨⟩ -
  refine CfgL.eff (o := _) rfl (by kernel_rfl) (by kernel_rfl) (Eff.callA (vs := [.string (tx (nextF z (4 : Int)).1)]) (.int .u64 ((valF ((nextF z (4 : Int)).1)) : Int)) rfl Try.func58 rfl rfl (by kernel_rfl) (fun w1 _ => wValue ((nextF z (4 : Int)).1) w1 (Nat.le_trans (nextF_len _ _) (by decide)))) ?_
  rintro ⟨⟩ -
  refine CfgL.pure 2 [] (some [2]) (Γ' := [(2, [], .int .u32 (((valF ((nextF z (4 : Int)).1)) : Int) % 4294967296))]) (nd := (fun _ => [])) (by kernel_rfl) (fun _ => by kernel_rfl) trivial ?_
  refine CfgL.done rfl ?_
  refine Cfg.ret rfl (rs := [.tmp 2]) rfl [.int .u32 (((valF ((nextF z (4 : Int)).1)) : Int) % 4294967296)] ⟨by kernel_rfl, trivial⟩ (fun w1 hp => ?_)
  exact ⟨rfl, hp.ext, hp.own (b, _) (List.mem_cons_self ..)⟩

set_option maxRecDepth 100000 in
theorem wTEight (b : Nat) (z : IN) (w : World) (hB : w.heap[b]? = some (.cells (inC z) 98 (0, 0))) :
    Calls Try.prog 29 #[.pointer (some ⟨b, 0, none⟩)] w fun e w' => e = .returned (.int .u64 ((eightF z).1 : Int)) ∧ Ext [b] w w' ∧ w'.heap[b]? = some (.cells (inC (eightF z).2) 98 (0, 0)) := by
  refine enter (vs := [.pointer (some ⟨b, 0, none⟩)]) [b] [] [(b, .cells (inC z) 98 (0, 0))] Try.func29 rfl (by kernel_rfl) (HP.startM (R := []) (fun _ h => by cases h) hB (by simp)) ?_
  refine Cfg.reg rfl [0] [] (Γ' := [(0, [], .pointer (some ⟨b, 0, none⟩))]) (nd := (fun _ => [])) (fun _ => by kernel_rfl) trivial ?_
  refine Cfg.begL rfl ?_
  refine CfgL.pure 1 [] none (Γ' := [(3, [], .pointer (some ⟨b, 0, none⟩)), (0, [], .pointer (some ⟨b, 0, none⟩))]) (nd := (fun _ => [])) (by kernel_rfl) (fun _ => by kernel_rfl) trivial ?_
  refine CfgL.eff (o := _) rfl (by kernel_rfl) (by kernel_rfl) (Eff.callM (vs := [.pointer (some ⟨b, 0, none⟩), .int .i64 8]) (.string (tx (nextF z (8 : Int)).1)) 0 (b := b) (ob := .cells (inC z) 98 (0, 0)) (.cells (inC ((nextF z (8 : Int)).2)) 98 (0, 0)) rfl Try.func53 rfl rfl (by kernel_rfl) (by kernel_rfl) (fun w1 h => wNext b z (8 : Int) w1 (h.own (b, _) (List.mem_of_getElem? (i := 0) rfl)))) ?_
  rintro ⟨⟩ -
  refine CfgL.eff (o := _) rfl (by kernel_rfl) (by kernel_rfl) (Eff.callA (vs := [.string (tx (nextF z (8 : Int)).1)]) (.int .u64 ((valF ((nextF z (8 : Int)).1)) : Int)) rfl Try.func58 rfl rfl (by kernel_rfl) (fun w1 _ => wValue ((nextF z (8 : Int)).1) w1 (Nat.le_trans (nextF_len _ _) (by decide)))) ?_
  rintro ⟨⟩ -
  refine CfgL.pure 1 [] (some [2]) (Γ' := [(2, [], .int .u64 ((valF ((nextF z (8 : Int)).1)) : Int))]) (nd := (fun _ => [])) (by kernel_rfl) (fun _ => by kernel_rfl) trivial ?_
  refine CfgL.done rfl ?_
  refine Cfg.ret rfl (rs := [.tmp 2]) rfl [.int .u64 ((valF ((nextF z (8 : Int)).1)) : Int)] ⟨by kernel_rfl, trivial⟩ (fun w1 hp => ?_)
  exact ⟨rfl, hp.ext, hp.own (b, _) (List.mem_cons_self ..)⟩

set_option maxRecDepth 100000 in
theorem wFail (b : Nat) (z : IN) (x : Int) (w : World) (hB : w.heap[b]? = some (.cells (inC z) 98 (0, 0))) :
    Calls Try.prog 75 #[.pointer (some ⟨b, 0, none⟩), .int .i64 x] w fun e w' => e = .returned (.tuple #[]) ∧ Ext [b] w w' ∧ w'.heap[b]? = some (.cells (inC (failF z x)) 98 (0, 0)) := by
  refine enter (vs := [.pointer (some ⟨b, 0, none⟩), .int .i64 x]) [b] [] [(b, .cells (inC z) 98 (0, 0))] Try.func75 rfl (by kernel_rfl) (HP.startM (R := []) (fun _ h => by cases h) hB (by simp)) ?_
  refine Cfg.reg rfl [0, 1, 5] [] (Γ' := [(5, [], .bool true), (0, [], .pointer (some ⟨b, 0, none⟩)), (1, [], .int .i64 x)]) (nd := (fun _ => [])) (fun _ => by kernel_rfl) trivial ?_
  refine Cfg.condT rfl (b := true) (by kernel_rfl) rfl ?_
  refine Cfg.begL rfl ?_
  refine CfgL.pure 4 [] none (Γ' := [(9, [], .int .i64 x), (8, [], .pointer (some ⟨b, 0, none⟩)), (7, [], .pointer (some ⟨b, 0, none⟩)), (6, [], .pointer (some ⟨b, 0, none⟩)), (5, [], .bool true), (0, [], .pointer (some ⟨b, 0, none⟩)), (1, [], .int .i64 x)]) (nd := (fun _ => [])) (by kernel_rfl) (fun _ => by kernel_rfl) trivial ?_
  refine CfgL.eff (o := _) rfl (by kernel_rfl) (by kernel_rfl) (Eff.callM (vs := [.pointer (some ⟨b, 0, none⟩), .int .i64 x]) (.tuple #[]) 0 (b := b) (ob := .cells (inC z) 98 (0, 0)) (.cells (inC (failF z x)) 98 (0, 0)) rfl Try.func73 rfl rfl (by kernel_rfl) (by kernel_rfl) (fun w1 h => wNote b z x w1 (h.own (b, _) (List.mem_of_getElem? (i := 0) rfl)))) ?_
  rintro ⟨⟩ -
  refine CfgL.done rfl ?_
  refine Conv.cfg (Γ' := []) (Conv.mk (by kernel_rfl)) ?_
  refine Cfg.fin rfl (rs := []) rfl [] trivial (fun w1 hp => ?_)
  exact ⟨rfl, hp.ext, hp.own (b, _) (List.mem_cons_self ..)⟩

set_option maxRecDepth 100000 in
theorem wBounded (b : Nat) (z : IN) (most x : Int) (w : World) (hB : w.heap[b]? = some (.cells (inC z) 98 (0, 0))) (hm : most ≤ 9223372036854775807) :
    Calls Try.prog 54 #[.pointer (some ⟨b, 0, none⟩), .int .i64 most, .int .i64 x] w fun e w' => e = .returned (.int .i64 ((boundF z most x).1 : Int)) ∧ Ext [b] w w' ∧ w'.heap[b]? = some (.cells (inC (boundF z most x).2) 98 (0, 0)) := by
  have hfl := fourF_lt z
  have hmx : (if (0 : Int) > most then (0 : Int) else most) ≤ 9223372036854775807 ∧ 0 ≤ (if (0 : Int) > most then (0 : Int) else most) := by split <;> omega
  refine enter (vs := [.pointer (some ⟨b, 0, none⟩), .int .i64 most, .int .i64 x]) [b] [] [(b, .cells (inC z) 98 (0, 0))] Try.func54 rfl (by kernel_rfl) (HP.startM (R := []) (fun _ h => by cases h) hB (by simp)) ?_
  refine Cfg.reg rfl [0, 1, 2] [] (Γ' := [(0, [], .pointer (some ⟨b, 0, none⟩)), (1, [], .int .i64 most), (2, [], .int .i64 x)]) (nd := (fun _ => [])) (fun _ => by kernel_rfl) trivial ?_
  refine Cfg.begL rfl ?_
  refine CfgL.pure 1 [] none (Γ' := [(8, [], .pointer (some ⟨b, 0, none⟩)), (0, [], .pointer (some ⟨b, 0, none⟩)), (1, [], .int .i64 most), (2, [], .int .i64 x)]) (nd := (fun _ => [])) (by kernel_rfl) (fun _ => by kernel_rfl) trivial ?_
  refine CfgL.eff (o := _) rfl (by kernel_rfl) (by kernel_rfl) (Eff.callM (vs := [.pointer (some ⟨b, 0, none⟩)]) (.int .u32 ((fourF z).1 : Int)) 0 (b := b) (ob := .cells (inC z) 98 (0, 0)) (.cells (inC ((fourF z).2)) 98 (0, 0)) rfl Try.func74 rfl rfl (by kernel_rfl) (by kernel_rfl) (fun w1 h => wTFour b z w1 (h.own (b, _) (List.mem_of_getElem? (i := 0) rfl)))) ?_
  rintro ⟨⟩ -
  refine CfgL.pure 1 [] (some [0, 1, 2, 7]) (Γ' := [(7, [], .int .u32 ((fourF z).1 : Int)), (0, [], .pointer (some ⟨b, 0, none⟩)), (1, [], .int .i64 most), (2, [], .int .i64 x)]) (nd := (fun _ => [])) (by kernel_rfl) (fun _ => by kernel_rfl) trivial ?_
  refine CfgL.done rfl ?_
  refine Cfg.begL rfl ?_
  refine CfgL.pure 3 [] none (Γ' := [(12, [], .int .i64 most), (11, [], .int .u64 ((fourF z).1 : Int)), (10, [], .int .u32 ((fourF z).1 : Int)), (7, [], .int .u32 ((fourF z).1 : Int)), (0, [], .pointer (some ⟨b, 0, none⟩)), (1, [], .int .i64 most), (2, [], .int .i64 x)]) (nd := (fun _ => [((0 : Int) ≤ ((fourF z).1 : Int) ∧ ((fourF z).1 : Int) ≤ 18446744073709551615)])) (by kernel_rfl) (fun _ => by kernel_rfl) ⟨(by omega), trivial⟩ ?_
  refine CfgL.eff (o := _) rfl (by kernel_rfl) (by kernel_rfl) (Eff.maxI (k := .i64) (a := most) (b := 0) rfl (by kernel_rfl) (by kernel_rfl)) ?_
  rintro ⟨⟩ -
  refine CfgL.pure 2 [] (some [0, 2, 7, 15]) (Γ' := [(15, [], .bool (decide (((fourF z).1 : Int) > ((if (0 : Int) > most then (0 : Int) else most) % 18446744073709551616)))), (7, [], .int .u32 ((fourF z).1 : Int)), (0, [], .pointer (some ⟨b, 0, none⟩)), (2, [], .int .i64 x)]) (nd := (fun _ => [])) (by kernel_rfl) (fun _ => by kernel_rfl) trivial ?_
  refine CfgL.done rfl ?_
  refine Cfg.cond rfl (b := (decide (((fourF z).1 : Int) > ((if (0 : Int) > most then (0 : Int) else most) % 18446744073709551616)))) (by kernel_rfl) (fun c1r => ?_) (fun c1r => ?_)
  · have c1 : (((fourF z).1 : Int) > ((if (0 : Int) > most then (0 : Int) else most) % 18446744073709551616)) := (of_decide_eq_true c1r)
    refine Cfg.begL rfl ?_
    refine CfgL.pure 2 [] none (Γ' := [(17, [], .int .i64 x), (16, [], .pointer (some ⟨b, 0, none⟩)), (15, [], .bool (decide (((fourF z).1 : Int) > ((if (0 : Int) > most then (0 : Int) else most) % 18446744073709551616)))), (7, [], .int .u32 ((fourF z).1 : Int)), (0, [], .pointer (some ⟨b, 0, none⟩)), (2, [], .int .i64 x)]) (nd := (fun _ => [])) (by kernel_rfl) (fun _ => by kernel_rfl) trivial ?_
    refine CfgL.eff (o := _) rfl (by kernel_rfl) (by kernel_rfl) (Eff.callM (vs := [.pointer (some ⟨b, 0, none⟩), .int .i64 x]) (.tuple #[]) 0 (b := b) (ob := .cells (inC ((fourF z).2)) 98 (0, 0)) (.cells (inC (failF ((fourF z).2) x)) 98 (0, 0)) rfl Try.func75 rfl rfl (by kernel_rfl) (by kernel_rfl) (fun w1 h => wFail b ((fourF z).2) x w1 (h.own (b, _) (List.mem_of_getElem? (i := 0) rfl)))) ?_
    rintro ⟨⟩ -
    refine CfgL.done rfl ?_
    refine Conv.cfg (Γ' := []) (Conv.mk (by kernel_rfl)) ?_
    refine Cfg.reg rfl [6] [] (Γ' := [(6, [], .int .i64 0)]) (nd := (fun _ => [])) (fun _ => by kernel_rfl) trivial ?_
    refine Cfg.ret rfl (rs := [.tmp 6]) rfl [.int .i64 0] ⟨by kernel_rfl, trivial⟩ (fun w1 hp => ?_)
    have hx : boundF z most x = (0, failF (fourF z).2 x) := if_pos (by omega)
    rw [hx]
    exact ⟨rfl, hp.ext, hp.own (b, _) (List.mem_cons_self ..)⟩
  · have c1 : (¬ (((fourF z).1 : Int) > ((if (0 : Int) > most then (0 : Int) else most) % 18446744073709551616))) := (of_decide_eq_false c1r)
    refine Cfg.reg rfl [6] [] (Γ' := [(6, [], .int .i64 ((fourF z).1 : Int))]) (nd := (fun _ => [((-9223372036854775808 : Int) ≤ ((fourF z).1 : Int) ∧ ((fourF z).1 : Int) ≤ 9223372036854775807)])) (fun _ => by kernel_rfl) ⟨(by omega), trivial⟩ ?_
    refine Cfg.ret rfl (rs := [.tmp 6]) rfl [.int .i64 ((fourF z).1 : Int)] ⟨by kernel_rfl, trivial⟩ (fun w1 hp => ?_)
    have hx : boundF z most x = fourF z := if_neg (by omega)
    rw [hx]
    exact ⟨rfl, hp.ext, hp.own (b, _) (List.mem_cons_self ..)⟩

set_option maxRecDepth 100000 in
theorem wCount (b : Nat) (z : IN) (most : Int) (w : World) (hB : w.heap[b]? = some (.cells (inC z) 98 (0, 0))) (hm : most ≤ 9223372036854775807) :
    Calls Try.prog 55 #[.pointer (some ⟨b, 0, none⟩), .int .i64 most] w fun e w' => e = .returned (.int .i64 ((boundF z most 6).1 : Int)) ∧ Ext [b] w w' ∧ w'.heap[b]? = some (.cells (inC (boundF z most 6).2) 98 (0, 0)) := by
  refine enter (vs := [.pointer (some ⟨b, 0, none⟩), .int .i64 most]) [b] [] [(b, .cells (inC z) 98 (0, 0))] Try.func55 rfl (by kernel_rfl) (HP.startM (R := []) (fun _ h => by cases h) hB (by simp)) ?_
  refine Cfg.reg rfl [0, 1] [] (Γ' := [(0, [], .pointer (some ⟨b, 0, none⟩)), (1, [], .int .i64 most)]) (nd := (fun _ => [])) (fun _ => by kernel_rfl) trivial ?_
  refine Cfg.begL rfl ?_
  refine CfgL.pure 2 [] none (Γ' := [(6, [], .int .i64 most), (5, [], .pointer (some ⟨b, 0, none⟩)), (0, [], .pointer (some ⟨b, 0, none⟩)), (1, [], .int .i64 most)]) (nd := (fun _ => [])) (by kernel_rfl) (fun _ => by kernel_rfl) trivial ?_
  refine CfgL.eff (o := _) rfl (by kernel_rfl) (by kernel_rfl) (Eff.callM (vs := [.pointer (some ⟨b, 0, none⟩), .int .i64 most, .int .i64 6]) (.int .i64 ((boundF z most (6 : Int)).1 : Int)) 0 (b := b) (ob := .cells (inC z) 98 (0, 0)) (.cells (inC ((boundF z most (6 : Int)).2)) 98 (0, 0)) rfl Try.func54 rfl rfl (by kernel_rfl) (by kernel_rfl) (fun w1 h => wBounded b z most (6 : Int) w1 (h.own (b, _) (List.mem_of_getElem? (i := 0) rfl)) (by omega))) ?_
  rintro ⟨⟩ -
  refine CfgL.pure 1 [] (some [4]) (Γ' := [(4, [], .int .i64 ((boundF z most (6 : Int)).1 : Int))]) (nd := (fun _ => [])) (by kernel_rfl) (fun _ => by kernel_rfl) trivial ?_
  refine CfgL.done rfl ?_
  refine Cfg.ret rfl (rs := [.tmp 4]) rfl [.int .i64 ((boundF z most (6 : Int)).1 : Int)] ⟨by kernel_rfl, trivial⟩ (fun w1 hp => ?_)
  exact ⟨rfl, hp.ext, hp.own (b, _) (List.mem_cons_self ..)⟩

set_option maxRecDepth 100000 in
theorem wTText (b : Nat) (z : IN) (most : Int) (w : World) (hB : w.heap[b]? = some (.cells (inC z) 98 (0, 0))) (hm : most ≤ 9223372036854775807) :
    Calls Try.prog 26 #[.pointer (some ⟨b, 0, none⟩), .int .i64 most] w fun e w' => e = .returned (.string (tx (textF z most).1)) ∧ Ext [b] w w' ∧ w'.heap[b]? = some (.cells (inC (textF z most).2) 98 (0, 0)) := by
  refine enter (vs := [.pointer (some ⟨b, 0, none⟩), .int .i64 most]) [b] [] [(b, .cells (inC z) 98 (0, 0))] Try.func26 rfl (by kernel_rfl) (HP.startM (R := []) (fun _ h => by cases h) hB (by simp)) ?_
  refine Cfg.reg rfl [0, 1] [] (Γ' := [(0, [], .pointer (some ⟨b, 0, none⟩)), (1, [], .int .i64 most)]) (nd := (fun _ => [])) (fun _ => by kernel_rfl) trivial ?_
  refine Cfg.begL rfl ?_
  refine CfgL.pure 3 [] none (Γ' := [(7, [], .int .i64 most), (6, [], .pointer (some ⟨b, 0, none⟩)), (5, [], .pointer (some ⟨b, 0, none⟩)), (0, [], .pointer (some ⟨b, 0, none⟩)), (1, [], .int .i64 most)]) (nd := (fun _ => [])) (by kernel_rfl) (fun _ => by kernel_rfl) trivial ?_
  refine CfgL.eff (o := _) rfl (by kernel_rfl) (by kernel_rfl) (Eff.callM (vs := [.pointer (some ⟨b, 0, none⟩), .int .i64 most, .int .i64 5]) (.int .i64 ((boundF z most (5 : Int)).1 : Int)) 0 (b := b) (ob := .cells (inC z) 98 (0, 0)) (.cells (inC ((boundF z most (5 : Int)).2)) 98 (0, 0)) rfl Try.func54 rfl rfl (by kernel_rfl) (by kernel_rfl) (fun w1 h => wBounded b z most (5 : Int) w1 (h.own (b, _) (List.mem_of_getElem? (i := 0) rfl)) (by omega))) ?_
  rintro ⟨⟩ -
  refine CfgL.eff (o := _) rfl (by kernel_rfl) (by kernel_rfl) (Eff.callM (vs := [.pointer (some ⟨b, 0, none⟩), .int .i64 ((boundF z most (5 : Int)).1 : Int)]) (.string (tx (nextF ((boundF z most (5 : Int)).2) ((boundF z most (5 : Int)).1 : Int)).1)) 0 (b := b) (ob := .cells (inC ((boundF z most (5 : Int)).2)) 98 (0, 0)) (.cells (inC ((nextF ((boundF z most (5 : Int)).2) ((boundF z most (5 : Int)).1 : Int)).2)) 98 (0, 0)) rfl Try.func53 rfl rfl (by kernel_rfl) (by kernel_rfl) (fun w1 h => wNext b ((boundF z most (5 : Int)).2) ((boundF z most (5 : Int)).1 : Int) w1 (h.own (b, _) (List.mem_of_getElem? (i := 0) rfl)))) ?_
  rintro ⟨⟩ -
  refine CfgL.pure 1 [] (some [4]) (Γ' := [(4, [], .string (tx (nextF ((boundF z most (5 : Int)).2) ((boundF z most (5 : Int)).1 : Int)).1))]) (nd := (fun _ => [])) (by kernel_rfl) (fun _ => by kernel_rfl) trivial ?_
  refine CfgL.done rfl ?_
  refine Cfg.ret rfl (rs := [.tmp 4]) rfl [.string (tx (nextF ((boundF z most (5 : Int)).2) ((boundF z most (5 : Int)).1 : Int)).1)] ⟨by kernel_rfl, trivial⟩ (fun w1 hp => ?_)
  exact ⟨rfl, hp.ext, hp.own (b, _) (List.mem_cons_self ..)⟩

set_option maxRecDepth 100000 in
theorem wLeft (b : Nat) (z : IN) (w : World) (hB : w.heap[b]? = some (.cells (inC z) 98 (0, 0))) :
    Calls Try.prog 59 #[.pointer (some ⟨b, 0, none⟩)] w fun e w' => e = .returned (.int .i64 (z.rest.length : Int)) ∧ Ext [] w w' := by
  refine enter (vs := [.pointer (some ⟨b, 0, none⟩)]) [] [(b, .cells (inC z) 98 (0, 0))] [] Try.func59 rfl (by kernel_rfl) (HP.ofHas (fun e he => by rw [List.mem_singleton.1 he]; exact hB)) ?_
  refine Cfg.reg rfl [0] [] (Γ' := [(0, [], .pointer (some ⟨b, 0, none⟩))]) (nd := (fun _ => [])) (fun _ => by kernel_rfl) trivial ?_
  refine Cfg.reg rfl [0, 4] [] (Γ' := [(4, [], .bool false), (0, [], .pointer (some ⟨b, 0, none⟩))]) (nd := (fun _ => [])) (fun _ => by kernel_rfl) trivial ?_
  refine Cfg.condF rfl (b := false) (by kernel_rfl) rfl ?_
  refine Cfg.reg rfl [2] [(0, false, none), (0, false, none), (0, false, none), (0, false, some (.string (tx z.rest)))] (Γ' := [(2, [], .int .i64 ((tx z.rest).size : Int))]) (nd := (fun S => [(∀ w1, S w1 → w1.cell? ⟨b, 1, none⟩ = some (.string (tx z.rest)))])) (fun _ => by kernel_rfl) ⟨(fun w1 h => h.rcell 0 rfl rfl), trivial⟩ ?_
  refine Cfg.ret rfl (rs := [.tmp 2]) rfl [.int .i64 ((tx z.rest).size : Int)] ⟨by kernel_rfl, trivial⟩ (fun w1 hp => ?_)
  exact ⟨by rw [tx_size]; rfl, hp.ext⟩

set_option maxRecDepth 100000 in
theorem wErr (b : Nat) (z : IN) (w : World) (hB : w.heap[b]? = some (.cells (inC z) 98 (0, 0))) :
    Calls Try.prog 56 #[.pointer (some ⟨b, 0, none⟩)] w fun e w' => e = .returned (.int .i64 z.er) ∧ Ext [] w w' := by
  refine enter (vs := [.pointer (some ⟨b, 0, none⟩)]) [] [(b, .cells (inC z) 98 (0, 0))] [] Try.func56 rfl (by kernel_rfl) (HP.ofHas (fun e he => by rw [List.mem_singleton.1 he]; exact hB)) ?_
  refine Cfg.reg rfl [0] [] (Γ' := [(0, [], .pointer (some ⟨b, 0, none⟩))]) (nd := (fun _ => [])) (fun _ => by kernel_rfl) trivial ?_
  refine Cfg.reg rfl [0, 4] [] (Γ' := [(4, [], .bool false), (0, [], .pointer (some ⟨b, 0, none⟩))]) (nd := (fun _ => [])) (fun _ => by kernel_rfl) trivial ?_
  refine Cfg.condF rfl (b := false) (by kernel_rfl) rfl ?_
  refine Cfg.reg rfl [2] [(0, false, none), (0, false, none), (0, false, none), (0, false, none), (0, false, some (.int .i64 z.er))] (Γ' := [(2, [], .int .i64 z.er)]) (nd := (fun S => [(∀ w1, S w1 → w1.cell? ⟨b, 0, none⟩ = some (.int .i64 z.er))])) (fun _ => by kernel_rfl) ⟨(fun w1 h => h.rcell 0 rfl rfl), trivial⟩ ?_
  refine Cfg.ret rfl (rs := [.tmp 2]) rfl [.int .i64 z.er] ⟨by kernel_rfl, trivial⟩ (fun w1 hp => ?_)
  exact ⟨rfl, hp.ext⟩

set_option maxRecDepth 100000 in
theorem wEnd (b : Nat) (z : IN) (w : World) (hB : w.heap[b]? = some (.cells (inC z) 98 (0, 0))) :
    Calls Try.prog 30 #[.pointer (some ⟨b, 0, none⟩)] w fun e w' => e = .returned (.int .i64 (endF z)) ∧ Ext [] w w' := by
  refine enter (vs := [.pointer (some ⟨b, 0, none⟩)]) [] [(b, .cells (inC z) 98 (0, 0))] [] Try.func30 rfl (by kernel_rfl) (HP.ofHas (fun e he => by rw [List.mem_singleton.1 he]; exact hB)) ?_
  refine Cfg.reg rfl [0] [] (Γ' := [(0, [], .pointer (some ⟨b, 0, none⟩))]) (nd := (fun _ => [])) (fun _ => by kernel_rfl) trivial ?_
  refine Cfg.begL rfl ?_
  refine CfgL.pure 1 [] none (Γ' := [(4, [], .pointer (some ⟨b, 0, none⟩)), (0, [], .pointer (some ⟨b, 0, none⟩))]) (nd := (fun _ => [])) (by kernel_rfl) (fun _ => by kernel_rfl) trivial ?_
  refine CfgL.eff (o := _) rfl (by kernel_rfl) (by kernel_rfl) (Eff.callA (vs := [.pointer (some ⟨b, 0, none⟩)]) (.int .i64 z.er) rfl Try.func56 rfl rfl (by kernel_rfl) (fun w1 h => wErr b z w1 (h.ro (b, _) (List.mem_cons_self ..)))) ?_
  rintro ⟨⟩ -
  refine CfgL.pure 1 [] (some [0, 3]) (Γ' := [(3, [], .int .i64 z.er), (0, [], .pointer (some ⟨b, 0, none⟩))]) (nd := (fun _ => [])) (by kernel_rfl) (fun _ => by kernel_rfl) trivial ?_
  refine CfgL.done rfl ?_
  refine Cfg.reg rfl [0, 3, 7] [] (Γ' := [(7, [], .bool (z.er != (0 : Int))), (3, [], .int .i64 z.er), (0, [], .pointer (some ⟨b, 0, none⟩))]) (nd := (fun _ => [])) (fun _ => by kernel_rfl) trivial ?_
  refine Cfg.cond rfl (b := (z.er != (0 : Int))) (by kernel_rfl) (fun c1r => ?_) (fun c1r => ?_)
  · have c1 : (z.er ≠ (0 : Int)) := (bne_iff_ne.1 c1r)
    refine Cfg.reg rfl [2] [] (Γ' := [(2, [], .int .i64 z.er)]) (nd := (fun _ => [])) (fun _ => by kernel_rfl) trivial ?_
    refine Cfg.ret rfl (rs := [.tmp 2]) rfl [.int .i64 z.er] ⟨by kernel_rfl, trivial⟩ (fun w1 hp => ?_)
    exact ⟨by rw [show endF z = z.er from if_pos c1]; rfl, hp.ext⟩
  · have c1 : (z.er = (0 : Int)) := (bne_eq_false_iff_eq.1 c1r)
    refine Cfg.begL rfl ?_
    refine CfgL.pure 1 [] none (Γ' := [(9, [], .pointer (some ⟨b, 0, none⟩)), (7, [], .bool (z.er != (0 : Int))), (3, [], .int .i64 z.er), (0, [], .pointer (some ⟨b, 0, none⟩))]) (nd := (fun _ => [])) (by kernel_rfl) (fun _ => by kernel_rfl) trivial ?_
    refine CfgL.eff (o := _) rfl (by kernel_rfl) (by kernel_rfl) (Eff.callA (vs := [.pointer (some ⟨b, 0, none⟩)]) (.int .i64 (z.rest.length : Int)) rfl Try.func59 rfl rfl (by kernel_rfl) (fun w1 h => wLeft b z w1 (h.ro (b, _) (List.mem_cons_self ..)))) ?_
    rintro ⟨⟩ -
    refine CfgL.pure 1 [] (some [11]) (Γ' := [(11, [], .bool (decide ((z.rest.length : Int) > (0 : Int))))]) (nd := (fun _ => [])) (by kernel_rfl) (fun _ => by kernel_rfl) trivial ?_
    refine CfgL.done rfl ?_
    refine Cfg.cond rfl (b := (decide ((z.rest.length : Int) > (0 : Int)))) (by kernel_rfl) (fun c2r => ?_) (fun c2r => ?_)
    · have c2 : ((z.rest.length : Int) > (0 : Int)) := (of_decide_eq_true c2r)
      refine Cfg.reg rfl [2] [] (Γ' := [(2, [], .int .i64 4)]) (nd := (fun _ => [])) (fun _ => by kernel_rfl) trivial ?_
      refine Cfg.ret rfl (rs := [.tmp 2]) rfl [.int .i64 4] ⟨by kernel_rfl, trivial⟩ (fun w1 hp => ?_)
      exact ⟨by rw [show endF z = 4 from (if_neg (by omega)).trans (if_pos (by omega))]; rfl, hp.ext⟩
    · have c2 : (¬ ((z.rest.length : Int) > (0 : Int))) := (of_decide_eq_false c2r)
      refine Cfg.reg rfl [2] [] (Γ' := [(2, [], .int .i64 0)]) (nd := (fun _ => [])) (fun _ => by kernel_rfl) trivial ?_
      refine Cfg.ret rfl (rs := [.tmp 2]) rfl [.int .i64 0] ⟨by kernel_rfl, trivial⟩ (fun w1 hp => ?_)
      exact ⟨by rw [show endF z = 0 from (if_neg (by omega)).trans (if_neg (by omega))]; rfl, hp.ext⟩

set_option maxRecDepth 100000 in
theorem wTDigest (b : Nat) (z : IN) (w : World) (hB : w.heap[b]? = some (.cells (inC z) 98 (0, 0))) :
    Calls Try.prog 57 #[.pointer (some ⟨b, 0, none⟩)] w fun e w' => e = .returned (.agg (bv (digF z).1)) ∧ Ext [b] w w' ∧ w'.heap[b]? = some (.cells (inC (digF z).2) 98 (0, 0)) := by
  have hnn := next_none z 32
  refine enter (vs := [.pointer (some ⟨b, 0, none⟩)]) [b] [] [(b, .cells (inC z) 98 (0, 0))] Try.func57 rfl (by kernel_rfl) (HP.startM (R := []) (fun _ h => by cases h) hB (by simp)) ?_
  refine Cfg.begL rfl ?_
  refine CfgL.eff (o := _) rfl (by kernel_rfl) (by kernel_rfl) (Eff.alloc (z := (.agg (bv (List.replicate 32 0)))) rfl (by kernel_rfl)) ?_
  rintro rs ⟨hrs, nrs⟩
  refine CfgL.done rfl ?_
  refine Cfg.begL rfl ?_
  refine CfgL.eff (o := _) rfl (by kernel_rfl) (by kernel_rfl) (Eff.alloc (z := (.agg (bv (List.replicate 32 0)))) rfl (by kernel_rfl)) ?_
  rintro d ⟨hd, nd⟩
  refine CfgL.done rfl ?_
  refine Cfg.begA rfl (by kernel_rfl) [(rs, .cells (bv (List.replicate 32 0)) 45 (0, 0))] ?_
  refine CfgA.pure [0, 1] [] none (l' := #[true, true, false, false]) (by kernel_rfl) (by kernel_rfl) (.cons _ (.cons_cons _ (.cons _ .slnil))) 2 rfl (Γ' := [(5, [], .pointer (some ⟨b, 0, none⟩)), (4, [], .slice (some ⟨d, 0, none⟩) 32 32), (3, [], .pointer (some ⟨d, 0, none⟩)), (2, [], .pointer (some ⟨rs, 0, none⟩)), (0, [], .pointer (some ⟨b, 0, none⟩))]) (nd := (fun _ => [(32 ≤ 32)])) (fun _ => by kernel_rfl) ⟨(by omega), trivial⟩ ?_
  refine CfgA.eff 2 (o := _) rfl (by kernel_rfl) (fuel' := 1) rfl (by kernel_rfl) (by kernel_rfl) (Eff.callM (vs := [.pointer (some ⟨b, 0, none⟩), .int .i64 32]) (.string (tx (nextF z (32 : Int)).1)) 2 (b := b) (ob := .cells (inC z) 98 (0, 0)) (.cells (inC ((nextF z (32 : Int)).2)) 98 (0, 0)) rfl Try.func53 rfl rfl (by kernel_rfl) (by kernel_rfl) (fun w1 h => wNext b z (32 : Int) w1 (h.own (b, _) (List.mem_of_getElem? (i := 2) rfl)))) (fun _ _ => (.cons _ (.cons_cons _ (.cons _ .slnil)))) ?_
  rintro ⟨⟩ -
  refine CfgA.eff 3 (o := _) rfl (by kernel_rfl) (fuel' := 0) rfl (by kernel_rfl) (by kernel_rfl) (Eff.copyS rfl Try.underlying82 (by kernel_rfl) (b := d) (off := 0) (dl := 32) (c := 32) (by kernel_rfl) (s := (tx (nextF z (32 : Int)).1)) (by kernel_rfl) 0 (cs := (bv (List.replicate 32 0))) (te := 45) (by kernel_rfl) (min (tx (nextF z (32 : Int)).1).size 32) rfl (by rw [bv_size, List.length_replicate]; omega)) (fun _ _ => (.cons _ (.cons_cons _ (.cons _ .slnil)))) ?_
  rintro ⟨⟩ -
  refine CfgA.done (by kernel_rfl) ?_
  refine Conv.cfg (Γ' := [(3, [], .pointer (some ⟨d, 0, none⟩)), (2, [], .pointer (some ⟨rs, 0, none⟩))]) (Conv.mk (by kernel_rfl)) ?_
  refine Cfg.setO (O' := [(d, .cells (bv (dig32 (nextF z (32 : Int)).1)) 45 (0, 0)), (rs, .cells (bv (List.replicate 32 0)) 45 (0, 0)), (b, .cells (inC ((nextF z (32 : Int)).2)) 98 (0, 0))]) (congrArg (fun (xq : Array Value) => ([(d, .cells xq 45 (0, 0)), (rs, .cells (bv (List.replicate 32 0)) 45 (0, 0)), (b, .cells (inC ((nextF z (32 : Int)).2)) 98 (0, 0))] : List (Nat × Obj))) (dig_spl hnn (by rw [tx_size]))) ?_
  refine Cfg.begL rfl ?_
  refine CfgL.pure 1 [(0, false, some (.agg (bv (dig32 (nextF z (32 : Int)).1))))] none (Γ' := [(8, [], .agg (bv (dig32 (nextF z (32 : Int)).1))), (3, [], .pointer (some ⟨d, 0, none⟩)), (2, [], .pointer (some ⟨rs, 0, none⟩))]) (nd := (fun S => [(∀ w1, S w1 → (loadVar 45 ⟨d, 0, none⟩).run Try.prog w1 = .ok (.agg (bv (dig32 (nextF z (32 : Int)).1))) w1)])) (by kernel_rfl) (fun _ => by kernel_rfl) ⟨(fun w1 h => h.oload 0 rfl Try.underlying45 rfl (n := 32) (by kernel_rfl) ((bv_size _).trans (dig32_len _))), trivial⟩ ?_
  refine CfgL.eff (o := _) rfl (by kernel_rfl) (by kernel_rfl) (Eff.storeN (b := rs) (off := 0) (vs := (bv (dig32 (nextF z (32 : Int)).1))) (n := 32) rfl (by kernel_rfl) (by kernel_rfl) (by kernel_rfl) ((bv_size _).trans (dig32_len _)) (all_bv _) 1 (cs := (bv (List.replicate 32 0))) (e := 45) (by kernel_rfl) (by rw [zsz32]; omega)) ?_
  rintro ⟨⟩ -
  refine CfgL.setO (O' := [(d, .cells (bv (dig32 (nextF z (32 : Int)).1)) 45 (0, 0)), (rs, .cells (bv (dig32 (nextF z (32 : Int)).1)) 45 (0, 0)), (b, .cells (inC ((nextF z (32 : Int)).2)) 98 (0, 0))]) (congrArg (fun (xq : Array Value) => ([(d, .cells (bv (dig32 (nextF z (32 : Int)).1)) 45 (0, 0)), (rs, .cells xq 45 (0, 0)), (b, .cells (inC ((nextF z (32 : Int)).2)) 98 (0, 0))] : List (Nat × Obj))) (spl_all (((bv_size _).trans (dig32_len _)).trans zsz32.symm))) ?_
  refine CfgL.done rfl ?_
  refine Conv.cfg (Γ' := [(2, [], .pointer (some ⟨rs, 0, none⟩))]) (Conv.mk (by kernel_rfl)) ?_
  refine Cfg.ret rfl (rs := [.cell 2 45]) rfl [.agg (bv (dig32 (nextF z (32 : Int)).1))] ⟨⟨_, by kernel_rfl, (fun w1 h => h.oload 1 rfl Try.underlying45 rfl (n := 32) (by kernel_rfl) ((bv_size _).trans (dig32_len _)))⟩, trivial⟩ (fun w1 hp => ?_)
  exact ⟨rfl, hp.ext, hp.own (b, _) (List.mem_of_getElem? (i := 2) rfl)⟩

end Go.Proofs.Ytejgpniaoccpoaa
