/- wire: the document's In. Conditions: the In is the call's own. -/
import Derived.Test.YtejgpniaoccpoaaWire4
namespace Go.Proofs.Ytejgpniaoccpoaa
open K
set_option linter.unusedVariables false

/-- The document's In. -/
def inR (z : IN) : Array Value := #[.string (tx z.rest), .int .i64 z.er]
theorem valF_lt4 {l : List UInt8} (h : l.length ≤ 4) : valF l < 4294967296 := by
  have key : ∀ (l : List UInt8) (m : Nat), (m + 1) * 256 ^ l.length ≤ 18446744073709551616 → l.foldl vf m < (m + 1) * 256 ^ l.length := by
    intro l
    induction l with
    | nil => intro m _; simp
    | cons b l ih =>
      intro m hm
      have hb := byteLt b
      rw [List.length_cons, Nat.pow_succ, Nat.mul_comm (256 ^ l.length) 256, ← Nat.mul_assoc] at hm ⊢
      have hk : 0 < 256 ^ l.length := Nat.pow_pos (by decide)
      have h1 : (m + 1) * 256 ≤ 18446744073709551616 := Nat.le_trans (Nat.le_mul_of_pos_right _ hk) hm
      have e : vf m b = m * 256 + b.toNat := by unfold vf; omega
      rw [List.foldl_cons, e]
      have h2 : (m * 256 + b.toNat + 1) * 256 ^ l.length ≤ (m + 1) * 256 * 256 ^ l.length := Nat.mul_le_mul_right _ (by omega)
      exact Nat.lt_of_lt_of_le (ih _ (Nat.le_trans h2 hm)) h2
  have h1 := key l 0 (by
    have : 256 ^ l.length ≤ 256 ^ 4 := Nat.pow_le_pow_right (by decide) h
    omega)
  have h2 : 256 ^ l.length ≤ 256 ^ 4 := Nat.pow_le_pow_right (by decide) h
  unfold valF
  omega
theorem vf_sum (n : Nat) (b : UInt8) : ((((n : Int) * 256) % 18446744073709551616) + (b.toNat : Int)) % 18446744073709551616 = (vf n b : Int) := by
  have h1 := vf_lt n b
  unfold vf at h1 ⊢
  omega
theorem fourF_val (z : IN) : (fourF z).1 = valF (nextF z 4).1 := by
  have h1 := valF_lt4 (nextF_len z 4)
  exact Nat.mod_eq_of_lt h1
theorem failF_ne (z : IN) {e : Int} (he : e ≠ 0) : (failF z e).er ≠ 0 := by
  unfold failF; split
  · exact he
  · assumption
theorem textF_fail {z : IN} {most : Int} (h : (fourF z).1 > (if 0 > most then 0 else most).toNat) : textF z most = ([], failF (fourF z).2 5) := by
  unfold textF boundF
  rw [if_pos h]
  exact if_pos (failF_ne _ (by decide))
theorem textF_fine {z : IN} {most : Int} (h : ¬ (fourF z).1 > (if 0 > most then 0 else most).toNat) : textF z most = nextF (fourF z).2 ((fourF z).1 : Nat) := by
  unfold textF boundF
  rw [if_neg h]
def digK (l : List UInt8) (k : Nat) : List UInt8 := l.take k ++ List.replicate (32 - k) 0
theorem digK_len {l : List UInt8} {k : Nat} (h : k ≤ l.length) (h32 : k ≤ 32) : (digK l k).length = 32 := by simp [digK]; omega
theorem digK_set {l : List UInt8} {k : Nat} (h : k < l.length) (h32 : k < 32) : (digK l k).set k (l.getD k 0) = digK l (k + 1) := by
  have e : (l.take k).length = k := by rw [List.length_take]; omega
  unfold digK
  rw [List.set_append_right _ _ (by omega), e, Nat.sub_self, show 32 - k = (32 - (k + 1)) + 1 by omega, List.replicate_succ, List.set_cons_zero, List.take_add_one, List.getD_eq_getElem?_getD, List.getElem?_eq_getElem h, List.append_assoc]
  rfl
theorem digK_zero (l : List UInt8) : digK l 0 = List.replicate 32 0 := by simp [digK]
theorem digK_end {l : List UInt8} (h : l = [] ∨ l.length = 32) : digK l l.length = dig32 l := by
  rcases h with rfl | h
  · show digK [] 0 = _
    rw [digK_zero]; rfl
  · unfold digK dig32; rw [if_pos h, List.take_length, h]; simp

theorem u8_same' (b : UInt8) : UInt8.ofNat ((b.toNat : Int)).toNat = b := by simp
set_option maxRecDepth 100000 in
theorem rFail (b : Nat) (z : IN) (x : Int) (w : World) (hB : w.heap[b]? = some (.cells (inR z) 70 (0, 0))) :
    Calls Try.prog 60 #[.pointer (some ⟨b, 0, none⟩), .int .i64 x] w fun e w' => e = .returned (.tuple #[]) ∧ Ext [b] w w' ∧ w'.heap[b]? = some (.cells (inR (failF z x)) 70 (0, 0)) := by
  refine enter (vs := [.pointer (some ⟨b, 0, none⟩), .int .i64 x]) [b] [] [(b, .cells (inR z) 70 (0, 0))] Try.func60 rfl (by kernel_rfl) (HP.startM (R := []) (fun _ h => by cases h) hB (by simp)) ?_
  refine Cfg.reg rfl [0, 1, 8] [(0, false, none), (0, false, none), (0, false, none), (0, false, some (.int .i64 z.er))] (Γ' := [(8, [], .bool (z.er == (0 : Int))), (0, [], .pointer (some ⟨b, 0, none⟩)), (1, [], .int .i64 x)]) (nd := (fun S => [(∀ w1, S w1 → w1.cell? ⟨b, 1, none⟩ = some (.int .i64 z.er))])) (fun _ => by kernel_rfl) ⟨(fun w1 h => h.ocell 0 rfl rfl), trivial⟩ ?_
  refine Cfg.cond rfl (b := (z.er == (0 : Int))) (by kernel_rfl) (fun c1r => ?_) (fun c1r => ?_)
  · have c1 : (z.er = (0 : Int)) := (beq_iff_eq.1 c1r)
    refine Cfg.begL rfl ?_
    refine CfgL.pure 4 [] none (Γ' := [(12, [], .pointer (some ⟨b, 1, none⟩)), (11, [], .pointer (some ⟨b, 0, none⟩)), (10, [], .int .i64 x), (9, [], .pointer (some ⟨b, 0, none⟩)), (8, [], .bool (z.er == (0 : Int))), (0, [], .pointer (some ⟨b, 0, none⟩)), (1, [], .int .i64 x)]) (nd := (fun _ => [])) (by kernel_rfl) (fun _ => by kernel_rfl) trivial ?_
    refine CfgL.eff (o := _) rfl (by kernel_rfl) (by kernel_rfl) (Eff.store1 (b := b) (off := 1) (v := .int .i64 x) rfl (by kernel_rfl) (by kernel_rfl) rfl (by kernel_rfl) 0 (cs := (inR z)) (e := 70) (by kernel_rfl) (by simp [inR])) ?_
    rintro ⟨⟩ -
    refine CfgL.done rfl ?_
    refine Conv.cfg (Γ' := []) (Conv.mk (by kernel_rfl)) ?_
    refine Cfg.fin rfl (rs := []) rfl [] trivial (fun w1 hp => ?_)
    exact ⟨rfl, hp.ext, (show failF z x = ⟨x, z.rest⟩ from if_pos c1).symm ▸ hp.own (b, _) (List.mem_cons_self ..)⟩
  · have c1 : (z.er ≠ (0 : Int)) := (beq_eq_false_iff_ne.1 c1r)
    refine Cfg.fin rfl (rs := []) rfl [] trivial (fun w1 hp => ?_)
    exact ⟨rfl, hp.ext, (show failF z x = z from if_neg c1).symm ▸ hp.own (b, _) (List.mem_cons_self ..)⟩

set_option maxRecDepth 100000 in
theorem rRaw (b : Nat) (z : IN) (n : Int) (w : World) (hB : w.heap[b]? = some (.cells (inR z) 70 (0, 0))) :
    Calls Try.prog 61 #[.pointer (some ⟨b, 0, none⟩), .int .i64 n] w fun e w' => e = .returned (.string (tx (nextF z n).1)) ∧ Ext [b] w w' ∧ w'.heap[b]? = some (.cells (inR (nextF z n).2) 70 (0, 0)) := by
  have hts := tx_size z.rest
  refine enter (vs := [.pointer (some ⟨b, 0, none⟩), .int .i64 n]) [b] [] [(b, .cells (inR z) 70 (0, 0))] Try.func61 rfl (by kernel_rfl) (HP.startM (R := []) (fun _ h => by cases h) hB (by simp)) ?_
  refine Cfg.reg rfl [0, 1] [] (Γ' := [(0, [], .pointer (some ⟨b, 0, none⟩)), (1, [], .int .i64 n)]) (nd := (fun _ => [])) (fun _ => by kernel_rfl) trivial ?_
  refine Cfg.reg rfl [0, 1, 10] [(0, false, none), (0, false, none), (0, false, none), (0, false, some (.int .i64 z.er))] (Γ' := [(10, [], .bool (z.er != (0 : Int))), (0, [], .pointer (some ⟨b, 0, none⟩)), (1, [], .int .i64 n)]) (nd := (fun S => [(∀ w1, S w1 → w1.cell? ⟨b, 1, none⟩ = some (.int .i64 z.er))])) (fun _ => by kernel_rfl) ⟨(fun w1 h => h.ocell 0 rfl rfl), trivial⟩ ?_
  refine Cfg.cond rfl (b := (z.er != (0 : Int))) (by kernel_rfl) (fun c1r => ?_) (fun c1r => ?_)
  · have c1 : (z.er ≠ (0 : Int)) := (bne_iff_ne.1 c1r)
    refine Cfg.reg rfl [4] [] (Γ' := [(4, [], .string ⟨#[]⟩)]) (nd := (fun _ => [])) (fun _ => by kernel_rfl) trivial ?_
    refine Cfg.ret rfl (rs := [.tmp 4]) rfl [.string ⟨#[]⟩] ⟨by kernel_rfl, trivial⟩ (fun w1 hp => ?_)
    have hx : nextF z n = ([], z) := if_pos c1
    rw [hx]
    exact ⟨rfl, hp.ext, hp.own (b, _) (List.mem_cons_self ..)⟩
  · have c1 : (z.er = (0 : Int)) := (bne_eq_false_iff_eq.1 c1r)
    refine Cfg.reg rfl [0, 1, 21] [(0, false, none), (0, false, none), (0, false, none), (0, false, none), (0, false, none), (0, false, none), (0, false, none), (0, false, some (.string (tx z.rest)))] (Γ' := [(21, [], .bool ((decide (n < (0 : Int))) || (decide (n > ((tx z.rest).size : Int))))), (0, [], .pointer (some ⟨b, 0, none⟩)), (1, [], .int .i64 n)]) (nd := (fun S => [((.bool (decide (n < (0 : Int))) : Value) = .bool false → (∀ w1, S w1 → w1.cell? ⟨b, 0, none⟩ = some (.string (tx z.rest))))])) (fun _ => by kernel_rfl) ⟨(fun g0 => have q0 : (¬ (n < (0 : Int))) := (of_decide_eq_false (boolV g0)); (fun w1 h => h.ocell 0 rfl rfl)), trivial⟩ ?_
    refine Cfg.cond rfl (b := ((decide (n < (0 : Int))) || (decide (n > ((tx z.rest).size : Int))))) (by kernel_rfl) (fun c2r => ?_) (fun c2r => ?_)
    · have c2 : ((n < (0 : Int)) ∨ (n > ((tx z.rest).size : Int))) := ((orT c2r).elim (fun h => Or.inl (of_decide_eq_true h)) (fun h => Or.inr (of_decide_eq_true h)))
      refine Cfg.begL rfl ?_
      refine CfgL.pure 3 [] none (Γ' := [(24, [], .pointer (some ⟨b, 1, none⟩)), (23, [], .pointer (some ⟨b, 0, none⟩)), (22, [], .pointer (some ⟨b, 0, none⟩)), (21, [], .bool ((decide (n < (0 : Int))) || (decide (n > ((tx z.rest).size : Int))))), (0, [], .pointer (some ⟨b, 0, none⟩)), (1, [], .int .i64 n)]) (nd := (fun _ => [])) (by kernel_rfl) (fun _ => by kernel_rfl) trivial ?_
      refine CfgL.eff (o := _) rfl (by kernel_rfl) (by kernel_rfl) (Eff.store1 (b := b) (off := 1) (v := .int .i64 3) rfl (by kernel_rfl) (by kernel_rfl) rfl (by kernel_rfl) 0 (cs := (inR z)) (e := 70) (by kernel_rfl) (by simp [inR])) ?_
      rintro ⟨⟩ -
      refine CfgL.done rfl ?_
      refine Conv.cfg (Γ' := []) (Conv.mk (by kernel_rfl)) ?_
      refine Cfg.reg rfl [4] [] (Γ' := [(4, [], .string ⟨#[]⟩)]) (nd := (fun _ => [])) (fun _ => by kernel_rfl) trivial ?_
      refine Cfg.ret rfl (rs := [.tmp 4]) rfl [.string ⟨#[]⟩] ⟨by kernel_rfl, trivial⟩ (fun w1 hp => ?_)
      have hx : nextF z n = ([], ⟨3, z.rest⟩) := (if_neg (by omega)).trans (if_pos (by omega))
      rw [hx]
      exact ⟨rfl, hp.ext, hp.own (b, _) (List.mem_cons_self ..)⟩
    · have c2 : ((¬ (n < (0 : Int))) ∧ (¬ (n > ((tx z.rest).size : Int)))) := ⟨(of_decide_eq_false (orF1 c2r)), (of_decide_eq_false (orF2 c2r))⟩
      refine Cfg.reg rfl [0, 1, 5] [(0, false, none), (0, false, none), (0, false, none), (0, false, some (.string (tx z.rest)))] (Γ' := [(5, [], .string ((tx z.rest).extract 0 ((n).toNat))), (0, [], .pointer (some ⟨b, 0, none⟩)), (1, [], .int .i64 n)]) (nd := (fun S => [(∀ w1, S w1 → w1.cell? ⟨b, 0, none⟩ = some (.string (tx z.rest))), (0 ≤ n), (0 ≤ (n).toNat ∧ (n).toNat ≤ (tx z.rest).size)])) (fun _ => by kernel_rfl) ⟨(fun w1 h => h.ocell 0 rfl rfl), (by omega), (by omega), trivial⟩ ?_
      refine Cfg.begL rfl ?_
      refine CfgL.pure 9 [(0, false, none), (0, false, none), (0, false, none), (0, false, none), (0, false, some (.string (tx z.rest)))] none (Γ' := [(39, [], .pointer (some ⟨b, 0, none⟩)), (38, [], .pointer (some ⟨b, 0, none⟩)), (37, [], .string ((tx z.rest).extract ((n).toNat) ((tx z.rest).size))), (36, [], .int .i64 n), (35, [], .string (tx z.rest)), (34, [], .pointer (some ⟨b, 0, none⟩)), (33, [], .pointer (some ⟨b, 0, none⟩)), (32, [], .pointer (some ⟨b, 0, none⟩)), (31, [], .pointer (some ⟨b, 0, none⟩)), (5, [], .string ((tx z.rest).extract 0 ((n).toNat))), (0, [], .pointer (some ⟨b, 0, none⟩)), (1, [], .int .i64 n)]) (nd := (fun S => [(∀ w1, S w1 → w1.cell? ⟨b, 0, none⟩ = some (.string (tx z.rest))), (0 ≤ n), ((n).toNat ≤ (tx z.rest).size ∧ (tx z.rest).size ≤ (tx z.rest).size)])) (by kernel_rfl) (fun _ => by kernel_rfl) ⟨(fun w1 h => h.ocell 0 rfl rfl), (by omega), (by omega), trivial⟩ ?_
      refine CfgL.eff (o := _) rfl (by kernel_rfl) (by kernel_rfl) (Eff.store1 (b := b) (off := 0) (v := .string ((tx z.rest).extract ((n).toNat) ((tx z.rest).size))) rfl (by kernel_rfl) (by kernel_rfl) rfl (by kernel_rfl) 0 (cs := (inR z)) (e := 70) (by kernel_rfl) (by simp [inR])) ?_
      rintro ⟨⟩ -
      refine CfgL.done rfl ?_
      refine Conv.cfg (Γ' := [(5, [], .string ((tx z.rest).extract 0 ((n).toNat)))]) (Conv.mk (by kernel_rfl)) ?_
      refine Cfg.reg rfl [4] [] (Γ' := [(4, [], .string ((tx z.rest).extract 0 ((n).toNat)))]) (nd := (fun _ => [])) (fun _ => by kernel_rfl) trivial ?_
      refine Cfg.ret rfl (rs := [.tmp 4]) rfl [.string ((tx z.rest).extract 0 ((n).toNat))] ⟨by kernel_rfl, trivial⟩ (fun w1 hp => ?_)
      have hx : nextF z n = (z.rest.take n.toNat, ⟨z.er, z.rest.drop n.toNat⟩) := (if_neg (by omega)).trans (if_neg (by omega))
      rw [hx]
      exact ⟨by rw [tx_take]; rfl, hp.ext, by show w1.heap[b]? = some (.cells #[.string (tx (z.rest.drop n.toNat)), .int .i64 z.er] 70 (0, 0)); rw [← tx_drop]; exact hp.own (b, _) (List.mem_cons_self ..)⟩

set_option maxRecDepth 100000 in
theorem rNumI (b : Nat) (z : IN) (k : Nat) (w : World) (hB : w.heap[b]? = some (.cells (inR z) 70 (0, 0))) (hk : k ≤ 8) :
    Calls Try.prog 33 #[.pointer (some ⟨b, 0, none⟩), .int .i64 (k : Int)] w fun e w' => e = .returned (.int .u64 (valF (nextF z (k : Int)).1 : Int)) ∧ Ext [b] w w' ∧ w'.heap[b]? = some (.cells (inR (nextF z (k : Int)).2) 70 (0, 0)) := by
  have hts := tx_size (nextF z (k : Int)).1
  have hnl := nextF_len z k
  refine enter (vs := [.pointer (some ⟨b, 0, none⟩), .int .i64 (k : Int)]) [b] [] [(b, .cells (inR z) 70 (0, 0))] Try.func33 rfl (by kernel_rfl) (HP.startM (R := []) (fun _ h => by cases h) hB (by simp)) ?_
  refine Cfg.reg rfl [0, 1] [] (Γ' := [(0, [], .pointer (some ⟨b, 0, none⟩)), (1, [], .int .i64 (k : Int))]) (nd := (fun _ => [])) (fun _ => by kernel_rfl) trivial ?_
  refine Cfg.begL rfl ?_
  refine CfgL.pure 2 [] none (Γ' := [(9, [], .int .i64 (k : Int)), (8, [], .pointer (some ⟨b, 0, none⟩)), (0, [], .pointer (some ⟨b, 0, none⟩)), (1, [], .int .i64 (k : Int))]) (nd := (fun _ => [])) (by kernel_rfl) (fun _ => by kernel_rfl) trivial ?_
  refine CfgL.eff (o := _) rfl (by kernel_rfl) (by kernel_rfl) (Eff.callM (vs := [.pointer (some ⟨b, 0, none⟩), .int .i64 (k : Int)]) (.string (tx (nextF z (k : Int)).1)) 0 (b := b) (ob := .cells (inR z) 70 (0, 0)) (.cells (inR ((nextF z (k : Int)).2)) 70 (0, 0)) rfl Try.func61 rfl rfl (by kernel_rfl) (by kernel_rfl) (fun w1 h => rRaw b z (k : Int) w1 (h.own (b, _) (List.mem_of_getElem? (i := 0) rfl)))) ?_
  rintro ⟨⟩ -
  refine CfgL.pure 1 [] (some [5]) (Γ' := [(5, [], .string (tx (nextF z (k : Int)).1))]) (nd := (fun _ => [])) (by kernel_rfl) (fun _ => by kernel_rfl) trivial ?_
  refine CfgL.done rfl ?_
  refine Cfg.reg rfl [5, 6] [] (Γ' := [(6, [], .int .u64 0), (5, [], .string (tx (nextF z (k : Int)).1))]) (nd := (fun _ => [])) (fun _ => by kernel_rfl) trivial ?_
  refine Cfg.reg rfl [5, 6, 7] [] (Γ' := [(7, [], .int .i64 0), (6, [], .int .u64 0), (5, [], .string (tx (nextF z (k : Int)).1))]) (nd := (fun _ => [])) (fun _ => by kernel_rfl) trivial ?_
  refine Cfg.loop rfl (ι := Nat) (fun (i : Nat) => [(7, [], .int .i64 (i : Int)), (6, [], .int .u64 ((valF ((nextF z (k : Int)).1.take i)) : Int)), (5, [], .string (tx (nextF z (k : Int)).1))]) (fun (i : Nat) => [(b, .cells (inR ((nextF z (k : Int)).2)) 70 (0, 0))]) (fun (i : Nat) => (i ≤ (nextF z (k : Int)).1.length)) (fun (i : Nat) => (nextF z (k : Int)).1.length - i) 0 ?_ (Conv.mk (by kernel_rfl)) (.cons_cons _ .slnil) ?_
  · exact Nat.zero_le _
  · rintro i hi
    refine Cfg.reg rfl [5, 6, 7, 14] [] (Γ' := [(14, [], .bool (decide ((i : Int) < ((tx (nextF z (k : Int)).1).size : Int)))), (7, [], .int .i64 (i : Int)), (6, [], .int .u64 ((valF ((nextF z (k : Int)).1.take i)) : Int)), (5, [], .string (tx (nextF z (k : Int)).1))]) (nd := (fun _ => [])) (fun _ => by kernel_rfl) trivial ?_
    refine Cfg.cond rfl (b := (decide ((i : Int) < ((tx (nextF z (k : Int)).1).size : Int)))) (by kernel_rfl) (fun c1r => ?_) (fun c1r => ?_)
    · have c1 : ((i : Int) < ((tx (nextF z (k : Int)).1).size : Int)) := (of_decide_eq_true c1r)
      refine Cfg.reg rfl [5, 6, 7] [] (Γ' := [(6, [], .int .u64 ((((((valF ((nextF z (k : Int)).1.take i)) : Int) * 256) % 18446744073709551616) + (sbyte (tx (nextF z (k : Int)).1) (i : Int))) % 18446744073709551616)), (7, [], .int .i64 (i : Int)), (5, [], .string (tx (nextF z (k : Int)).1))]) (nd := (fun _ => [(0 ≤ (i : Int) ∧ (i : Int) < ((tx (nextF z (k : Int)).1).size : Int)), ((0 : Int) ≤ (sbyte (tx (nextF z (k : Int)).1) (i : Int)) ∧ (sbyte (tx (nextF z (k : Int)).1) (i : Int)) ≤ 18446744073709551615)])) (fun _ => by kernel_rfl) ⟨(by omega), (by have := byteLt (gb (nextF z (k : Int)).1 i); have := valF_lt ((nextF z (k : Int)).1.take i); have := sbyte_gb (nextF z (k : Int)).1 i; omega), trivial⟩ ?_
      refine Cfg.reg rfl [5, 6, 7] [] (Γ' := [(7, [], .int .i64 ((i : Int) + 1)), (6, [], .int .u64 ((((((valF ((nextF z (k : Int)).1.take i)) : Int) * 256) % 18446744073709551616) + (sbyte (tx (nextF z (k : Int)).1) (i : Int))) % 18446744073709551616)), (5, [], .string (tx (nextF z (k : Int)).1))]) (nd := (fun _ => [((-9223372036854775808 : Int) ≤ ((i : Int) + 1) ∧ ((i : Int) + 1) ≤ 9223372036854775807)])) (fun _ => by kernel_rfl) ⟨(by omega), trivial⟩ ?_
      refine Cfg.setG (Γ' := [(7, [], .int .i64 ((i : Int) + 1)), (6, [], .int .u64 ((valF ((nextF z (k : Int)).1.take (i + 1))) : Int)), (5, [], .string (tx (nextF z (k : Int)).1))]) (congrArg (fun (xq : Int) => ([(7, [], .int .i64 ((i : Int) + 1)), (6, [], .int .u64 xq), (5, [], .string (tx (nextF z (k : Int)).1))] : Env)) (by rw [val_succ (by omega), sbyte_gb, vf_sum])) ?_
      refine Cfg.again rfl (i + 1) (show i + 1 ≤ (nextF z (k : Int)).1.length by omega) (by omega) (Conv.mk (by kernel_rfl)) (.cons_cons _ .slnil)
    · have c1 : (¬ ((i : Int) < ((tx (nextF z (k : Int)).1).size : Int))) := (of_decide_eq_false c1r)
      refine Cfg.reg rfl [4] [] (Γ' := [(4, [], .int .u64 ((valF ((nextF z (k : Int)).1.take i)) : Int))]) (nd := (fun _ => [])) (fun _ => by kernel_rfl) trivial ?_
      refine Cfg.ret rfl (rs := [.tmp 4]) rfl [.int .u64 ((valF ((nextF z (k : Int)).1.take i)) : Int)] ⟨by kernel_rfl, trivial⟩ (fun w1 hp => ?_)
      exact ⟨by rw [show (nextF z (k : Int)).1.take i = (nextF z (k : Int)).1 from List.take_of_length_le (by omega)]; rfl, hp.ext, hp.own (b, _) (List.mem_cons_self ..)⟩

set_option maxRecDepth 100000 in
theorem rTextI (b : Nat) (z : IN) (most : Int) (w : World) (hB : w.heap[b]? = some (.cells (inR z) 70 (0, 0))) (hm : most ≤ 9223372036854775807) :
    Calls Try.prog 31 #[.pointer (some ⟨b, 0, none⟩), .int .i64 most] w fun e w' => e = .returned (.string (tx (textF z most).1)) ∧ Ext [b] w w' ∧ w'.heap[b]? = some (.cells (inR (textF z most).2) 70 (0, 0)) := by
  have hfl := fourF_lt z
  have hfv := fourF_val z
  refine enter (vs := [.pointer (some ⟨b, 0, none⟩), .int .i64 most]) [b] [] [(b, .cells (inR z) 70 (0, 0))] Try.func31 rfl (by kernel_rfl) (HP.startM (R := []) (fun _ h => by cases h) hB (by simp)) ?_
  refine Cfg.reg rfl [0, 1] [] (Γ' := [(0, [], .pointer (some ⟨b, 0, none⟩)), (1, [], .int .i64 most)]) (nd := (fun _ => [])) (fun _ => by kernel_rfl) trivial ?_
  refine Cfg.begL rfl ?_
  refine CfgL.pure 1 [] none (Γ' := [(6, [], .pointer (some ⟨b, 0, none⟩)), (0, [], .pointer (some ⟨b, 0, none⟩)), (1, [], .int .i64 most)]) (nd := (fun _ => [])) (by kernel_rfl) (fun _ => by kernel_rfl) trivial ?_
  refine CfgL.eff (o := _) rfl (by kernel_rfl) (by kernel_rfl) (Eff.callM (vs := [.pointer (some ⟨b, 0, none⟩), .int .i64 4]) (.int .u64 ((fourF z).1 : Int)) 0 (b := b) (ob := .cells (inR z) 70 (0, 0)) (.cells (inR ((fourF z).2)) 70 (0, 0)) rfl Try.func33 rfl rfl (by kernel_rfl) (by kernel_rfl) (fun w1 h => (by have h9 := rNumI b z 4 w1 (h.own (b, _) (List.mem_of_getElem? (i := 0) rfl)) (by omega); rw [hfv]; exact h9))) ?_
  rintro ⟨⟩ -
  refine CfgL.pure 1 [] (some [0, 1, 5]) (Γ' := [(5, [], .int .u64 ((fourF z).1 : Int)), (0, [], .pointer (some ⟨b, 0, none⟩)), (1, [], .int .i64 most)]) (nd := (fun _ => [])) (by kernel_rfl) (fun _ => by kernel_rfl) trivial ?_
  refine CfgL.done rfl ?_
  refine Cfg.reg rfl [0, 1, 5, 9] [] (Γ' := [(9, [], .bool (decide (most < (0 : Int)))), (5, [], .int .u64 ((fourF z).1 : Int)), (0, [], .pointer (some ⟨b, 0, none⟩)), (1, [], .int .i64 most)]) (nd := (fun _ => [])) (fun _ => by kernel_rfl) trivial ?_
  refine Cfg.cond rfl (b := (decide (most < (0 : Int)))) (by kernel_rfl) (fun c1r => ?_) (fun c1r => ?_)
  · have c1 : (most < (0 : Int)) := (of_decide_eq_true c1r)
    refine Cfg.reg rfl [0, 1, 5] [] (Γ' := [(1, [], .int .i64 0), (5, [], .int .u64 ((fourF z).1 : Int)), (0, [], .pointer (some ⟨b, 0, none⟩))]) (nd := (fun _ => [])) (fun _ => by kernel_rfl) trivial ?_
    refine Cfg.reg rfl [0, 5, 13] [] (Γ' := [(13, [], .bool (decide (((fourF z).1 : Int) > (0 : Int)))), (5, [], .int .u64 ((fourF z).1 : Int)), (0, [], .pointer (some ⟨b, 0, none⟩))]) (nd := (fun _ => [])) (fun _ => by kernel_rfl) trivial ?_
    refine Cfg.cond rfl (b := (decide (((fourF z).1 : Int) > (0 : Int)))) (by kernel_rfl) (fun c2r => ?_) (fun c2r => ?_)
    · have c2 : (((fourF z).1 : Int) > (0 : Int)) := (of_decide_eq_true c2r)
      refine Cfg.begL rfl ?_
      refine CfgL.pure 1 [] none (Γ' := [(14, [], .pointer (some ⟨b, 0, none⟩)), (13, [], .bool (decide (((fourF z).1 : Int) > (0 : Int)))), (5, [], .int .u64 ((fourF z).1 : Int)), (0, [], .pointer (some ⟨b, 0, none⟩))]) (nd := (fun _ => [])) (by kernel_rfl) (fun _ => by kernel_rfl) trivial ?_
      refine CfgL.eff (o := _) rfl (by kernel_rfl) (by kernel_rfl) (Eff.callM (vs := [.pointer (some ⟨b, 0, none⟩), .int .i64 5]) (.tuple #[]) 0 (b := b) (ob := .cells (inR ((fourF z).2)) 70 (0, 0)) (.cells (inR (failF ((fourF z).2) (5 : Int))) 70 (0, 0)) rfl Try.func60 rfl rfl (by kernel_rfl) (by kernel_rfl) (fun w1 h => rFail b ((fourF z).2) (5 : Int) w1 (h.own (b, _) (List.mem_of_getElem? (i := 0) rfl)))) ?_
      rintro ⟨⟩ -
      refine CfgL.done rfl ?_
      refine Conv.cfg (Γ' := []) (Conv.mk (by kernel_rfl)) ?_
      refine Cfg.reg rfl [4] [] (Γ' := [(4, [], .string ⟨#[]⟩)]) (nd := (fun _ => [])) (fun _ => by kernel_rfl) trivial ?_
      refine Cfg.ret rfl (rs := [.tmp 4]) rfl [.string ⟨#[]⟩] ⟨by kernel_rfl, trivial⟩ (fun w1 hp => ?_)
      have hmx : (if 0 > most then (0 : Int) else most) = 0 := if_pos (by omega)
      have hx : textF z most = ([], failF (fourF z).2 5) := textF_fail (by rw [hmx]; omega)
      rw [hx]
      exact ⟨rfl, hp.ext, hp.own (b, _) (List.mem_cons_self ..)⟩
    · have c2 : (¬ (((fourF z).1 : Int) > (0 : Int))) := (of_decide_eq_false c2r)
      refine Cfg.begL rfl ?_
      refine CfgL.pure 3 [] none (Γ' := [(18, [], .int .i64 ((fourF z).1 : Int)), (17, [], .int .u64 ((fourF z).1 : Int)), (16, [], .pointer (some ⟨b, 0, none⟩)), (13, [], .bool (decide (((fourF z).1 : Int) > (0 : Int)))), (5, [], .int .u64 ((fourF z).1 : Int)), (0, [], .pointer (some ⟨b, 0, none⟩))]) (nd := (fun _ => [((-9223372036854775808 : Int) ≤ ((fourF z).1 : Int) ∧ ((fourF z).1 : Int) ≤ 9223372036854775807)])) (by kernel_rfl) (fun _ => by kernel_rfl) ⟨(by omega), trivial⟩ ?_
      refine CfgL.eff (o := _) rfl (by kernel_rfl) (by kernel_rfl) (Eff.callM (vs := [.pointer (some ⟨b, 0, none⟩), .int .i64 ((fourF z).1 : Int)]) (.string (tx (nextF ((fourF z).2) ((fourF z).1 : Int)).1)) 0 (b := b) (ob := .cells (inR ((fourF z).2)) 70 (0, 0)) (.cells (inR ((nextF ((fourF z).2) ((fourF z).1 : Int)).2)) 70 (0, 0)) rfl Try.func61 rfl rfl (by kernel_rfl) (by kernel_rfl) (fun w1 h => rRaw b ((fourF z).2) ((fourF z).1 : Int) w1 (h.own (b, _) (List.mem_of_getElem? (i := 0) rfl)))) ?_
      rintro ⟨⟩ -
      refine CfgL.pure 1 [] (some [4]) (Γ' := [(4, [], .string (tx (nextF ((fourF z).2) ((fourF z).1 : Int)).1))]) (nd := (fun _ => [])) (by kernel_rfl) (fun _ => by kernel_rfl) trivial ?_
      refine CfgL.done rfl ?_
      refine Cfg.ret rfl (rs := [.tmp 4]) rfl [.string (tx (nextF ((fourF z).2) ((fourF z).1 : Int)).1)] ⟨by kernel_rfl, trivial⟩ (fun w1 hp => ?_)
      have hmx : (if 0 > most then (0 : Int) else most) = 0 := if_pos (by omega)
      have hx : textF z most = nextF (fourF z).2 ((fourF z).1 : Nat) := textF_fine (by rw [hmx]; omega)
      rw [hx]
      exact ⟨rfl, hp.ext, hp.own (b, _) (List.mem_cons_self ..)⟩
  · have c1 : (¬ (most < (0 : Int))) := (of_decide_eq_false c1r)
    refine Cfg.reg rfl [0, 5, 13] [] (Γ' := [(13, [], .bool (decide (((fourF z).1 : Int) > (most % 18446744073709551616)))), (5, [], .int .u64 ((fourF z).1 : Int)), (0, [], .pointer (some ⟨b, 0, none⟩))]) (nd := (fun _ => [])) (fun _ => by kernel_rfl) trivial ?_
    refine Cfg.cond rfl (b := (decide (((fourF z).1 : Int) > (most % 18446744073709551616)))) (by kernel_rfl) (fun c3r => ?_) (fun c3r => ?_)
    · have c3 : (((fourF z).1 : Int) > (most % 18446744073709551616)) := (of_decide_eq_true c3r)
      refine Cfg.begL rfl ?_
      refine CfgL.pure 1 [] none (Γ' := [(14, [], .pointer (some ⟨b, 0, none⟩)), (13, [], .bool (decide (((fourF z).1 : Int) > (most % 18446744073709551616)))), (5, [], .int .u64 ((fourF z).1 : Int)), (0, [], .pointer (some ⟨b, 0, none⟩))]) (nd := (fun _ => [])) (by kernel_rfl) (fun _ => by kernel_rfl) trivial ?_
      refine CfgL.eff (o := _) rfl (by kernel_rfl) (by kernel_rfl) (Eff.callM (vs := [.pointer (some ⟨b, 0, none⟩), .int .i64 5]) (.tuple #[]) 0 (b := b) (ob := .cells (inR ((fourF z).2)) 70 (0, 0)) (.cells (inR (failF ((fourF z).2) (5 : Int))) 70 (0, 0)) rfl Try.func60 rfl rfl (by kernel_rfl) (by kernel_rfl) (fun w1 h => rFail b ((fourF z).2) (5 : Int) w1 (h.own (b, _) (List.mem_of_getElem? (i := 0) rfl)))) ?_
      rintro ⟨⟩ -
      refine CfgL.done rfl ?_
      refine Conv.cfg (Γ' := []) (Conv.mk (by kernel_rfl)) ?_
      refine Cfg.reg rfl [4] [] (Γ' := [(4, [], .string ⟨#[]⟩)]) (nd := (fun _ => [])) (fun _ => by kernel_rfl) trivial ?_
      refine Cfg.ret rfl (rs := [.tmp 4]) rfl [.string ⟨#[]⟩] ⟨by kernel_rfl, trivial⟩ (fun w1 hp => ?_)
      have hmx : (if 0 > most then (0 : Int) else most) = most := if_neg (by omega)
      have hx : textF z most = ([], failF (fourF z).2 5) := textF_fail (by rw [hmx]; omega)
      rw [hx]
      exact ⟨rfl, hp.ext, hp.own (b, _) (List.mem_cons_self ..)⟩
    · have c3 : (¬ (((fourF z).1 : Int) > (most % 18446744073709551616))) := (of_decide_eq_false c3r)
      refine Cfg.begL rfl ?_
      refine CfgL.pure 3 [] none (Γ' := [(18, [], .int .i64 ((fourF z).1 : Int)), (17, [], .int .u64 ((fourF z).1 : Int)), (16, [], .pointer (some ⟨b, 0, none⟩)), (13, [], .bool (decide (((fourF z).1 : Int) > (most % 18446744073709551616)))), (5, [], .int .u64 ((fourF z).1 : Int)), (0, [], .pointer (some ⟨b, 0, none⟩))]) (nd := (fun _ => [((-9223372036854775808 : Int) ≤ ((fourF z).1 : Int) ∧ ((fourF z).1 : Int) ≤ 9223372036854775807)])) (by kernel_rfl) (fun _ => by kernel_rfl) ⟨(by omega), trivial⟩ ?_
      refine CfgL.eff (o := _) rfl (by kernel_rfl) (by kernel_rfl) (Eff.callM (vs := [.pointer (some ⟨b, 0, none⟩), .int .i64 ((fourF z).1 : Int)]) (.string (tx (nextF ((fourF z).2) ((fourF z).1 : Int)).1)) 0 (b := b) (ob := .cells (inR ((fourF z).2)) 70 (0, 0)) (.cells (inR ((nextF ((fourF z).2) ((fourF z).1 : Int)).2)) 70 (0, 0)) rfl Try.func61 rfl rfl (by kernel_rfl) (by kernel_rfl) (fun w1 h => rRaw b ((fourF z).2) ((fourF z).1 : Int) w1 (h.own (b, _) (List.mem_of_getElem? (i := 0) rfl)))) ?_
      rintro ⟨⟩ -
      refine CfgL.pure 1 [] (some [4]) (Γ' := [(4, [], .string (tx (nextF ((fourF z).2) ((fourF z).1 : Int)).1))]) (nd := (fun _ => [])) (by kernel_rfl) (fun _ => by kernel_rfl) trivial ?_
      refine CfgL.done rfl ?_
      refine Cfg.ret rfl (rs := [.tmp 4]) rfl [.string (tx (nextF ((fourF z).2) ((fourF z).1 : Int)).1)] ⟨by kernel_rfl, trivial⟩ (fun w1 hp => ?_)
      have hmx : (if 0 > most then (0 : Int) else most) = most := if_neg (by omega)
      have hx : textF z most = nextF (fourF z).2 ((fourF z).1 : Nat) := textF_fine (by rw [hmx]; omega)
      rw [hx]
      exact ⟨rfl, hp.ext, hp.own (b, _) (List.mem_cons_self ..)⟩

set_option maxRecDepth 100000 in
theorem rCountI (b : Nat) (z : IN) (most : Int) (w : World) (hB : w.heap[b]? = some (.cells (inR z) 70 (0, 0))) (hm : most ≤ 9223372036854775807) :
    Calls Try.prog 62 #[.pointer (some ⟨b, 0, none⟩), .int .i64 most] w fun e w' => e = .returned (.int .i64 ((boundF z most 6).1 : Int)) ∧ Ext [b] w w' ∧ w'.heap[b]? = some (.cells (inR (boundF z most 6).2) 70 (0, 0)) := by
  have hfl := fourF_lt z
  have hfv := fourF_val z
  refine enter (vs := [.pointer (some ⟨b, 0, none⟩), .int .i64 most]) [b] [] [(b, .cells (inR z) 70 (0, 0))] Try.func62 rfl (by kernel_rfl) (HP.startM (R := []) (fun _ h => by cases h) hB (by simp)) ?_
  refine Cfg.reg rfl [0, 1] [] (Γ' := [(0, [], .pointer (some ⟨b, 0, none⟩)), (1, [], .int .i64 most)]) (nd := (fun _ => [])) (fun _ => by kernel_rfl) trivial ?_
  refine Cfg.begL rfl ?_
  refine CfgL.pure 1 [] none (Γ' := [(6, [], .pointer (some ⟨b, 0, none⟩)), (0, [], .pointer (some ⟨b, 0, none⟩)), (1, [], .int .i64 most)]) (nd := (fun _ => [])) (by kernel_rfl) (fun _ => by kernel_rfl) trivial ?_
  refine CfgL.eff (o := _) rfl (by kernel_rfl) (by kernel_rfl) (Eff.callM (vs := [.pointer (some ⟨b, 0, none⟩), .int .i64 4]) (.int .u64 ((fourF z).1 : Int)) 0 (b := b) (ob := .cells (inR z) 70 (0, 0)) (.cells (inR ((fourF z).2)) 70 (0, 0)) rfl Try.func33 rfl rfl (by kernel_rfl) (by kernel_rfl) (fun w1 h => (by have h9 := rNumI b z 4 w1 (h.own (b, _) (List.mem_of_getElem? (i := 0) rfl)) (by omega); rw [hfv]; exact h9))) ?_
  rintro ⟨⟩ -
  refine CfgL.pure 1 [] (some [0, 1, 5]) (Γ' := [(5, [], .int .u64 ((fourF z).1 : Int)), (0, [], .pointer (some ⟨b, 0, none⟩)), (1, [], .int .i64 most)]) (nd := (fun _ => [])) (by kernel_rfl) (fun _ => by kernel_rfl) trivial ?_
  refine CfgL.done rfl ?_
  refine Cfg.reg rfl [0, 1, 5, 9] [] (Γ' := [(9, [], .bool (decide (most < (0 : Int)))), (5, [], .int .u64 ((fourF z).1 : Int)), (0, [], .pointer (some ⟨b, 0, none⟩)), (1, [], .int .i64 most)]) (nd := (fun _ => [])) (fun _ => by kernel_rfl) trivial ?_
  refine Cfg.cond rfl (b := (decide (most < (0 : Int)))) (by kernel_rfl) (fun c1r => ?_) (fun c1r => ?_)
  · have c1 : (most < (0 : Int)) := (of_decide_eq_true c1r)
    refine Cfg.reg rfl [0, 1, 5] [] (Γ' := [(1, [], .int .i64 0), (5, [], .int .u64 ((fourF z).1 : Int)), (0, [], .pointer (some ⟨b, 0, none⟩))]) (nd := (fun _ => [])) (fun _ => by kernel_rfl) trivial ?_
    refine Cfg.reg rfl [0, 5, 13] [] (Γ' := [(13, [], .bool (decide (((fourF z).1 : Int) > (0 : Int)))), (5, [], .int .u64 ((fourF z).1 : Int)), (0, [], .pointer (some ⟨b, 0, none⟩))]) (nd := (fun _ => [])) (fun _ => by kernel_rfl) trivial ?_
    refine Cfg.cond rfl (b := (decide (((fourF z).1 : Int) > (0 : Int)))) (by kernel_rfl) (fun c2r => ?_) (fun c2r => ?_)
    · have c2 : (((fourF z).1 : Int) > (0 : Int)) := (of_decide_eq_true c2r)
      refine Cfg.begL rfl ?_
      refine CfgL.pure 1 [] none (Γ' := [(14, [], .pointer (some ⟨b, 0, none⟩)), (13, [], .bool (decide (((fourF z).1 : Int) > (0 : Int)))), (5, [], .int .u64 ((fourF z).1 : Int)), (0, [], .pointer (some ⟨b, 0, none⟩))]) (nd := (fun _ => [])) (by kernel_rfl) (fun _ => by kernel_rfl) trivial ?_
      refine CfgL.eff (o := _) rfl (by kernel_rfl) (by kernel_rfl) (Eff.callM (vs := [.pointer (some ⟨b, 0, none⟩), .int .i64 6]) (.tuple #[]) 0 (b := b) (ob := .cells (inR ((fourF z).2)) 70 (0, 0)) (.cells (inR (failF ((fourF z).2) (6 : Int))) 70 (0, 0)) rfl Try.func60 rfl rfl (by kernel_rfl) (by kernel_rfl) (fun w1 h => rFail b ((fourF z).2) (6 : Int) w1 (h.own (b, _) (List.mem_of_getElem? (i := 0) rfl)))) ?_
      rintro ⟨⟩ -
      refine CfgL.done rfl ?_
      refine Conv.cfg (Γ' := []) (Conv.mk (by kernel_rfl)) ?_
      refine Cfg.reg rfl [4] [] (Γ' := [(4, [], .int .i64 0)]) (nd := (fun _ => [])) (fun _ => by kernel_rfl) trivial ?_
      refine Cfg.ret rfl (rs := [.tmp 4]) rfl [.int .i64 0] ⟨by kernel_rfl, trivial⟩ (fun w1 hp => ?_)
      have hmx : (if 0 > most then (0 : Int) else most) = 0 := if_pos (by omega)
      have hx : boundF z most 6 = (0, failF (fourF z).2 6) := if_pos (by rw [hmx]; omega)
      rw [hx]
      exact ⟨rfl, hp.ext, hp.own (b, _) (List.mem_cons_self ..)⟩
    · have c2 : (¬ (((fourF z).1 : Int) > (0 : Int))) := (of_decide_eq_false c2r)
      refine Cfg.reg rfl [4] [] (Γ' := [(4, [], .int .i64 ((fourF z).1 : Int))]) (nd := (fun _ => [((-9223372036854775808 : Int) ≤ ((fourF z).1 : Int) ∧ ((fourF z).1 : Int) ≤ 9223372036854775807)])) (fun _ => by kernel_rfl) ⟨(by omega), trivial⟩ ?_
      refine Cfg.ret rfl (rs := [.tmp 4]) rfl [.int .i64 ((fourF z).1 : Int)] ⟨by kernel_rfl, trivial⟩ (fun w1 hp => ?_)
      have hmx : (if 0 > most then (0 : Int) else most) = 0 := if_pos (by omega)
      have hx : boundF z most 6 = fourF z := if_neg (by rw [hmx]; omega)
      rw [hx]
      exact ⟨rfl, hp.ext, hp.own (b, _) (List.mem_cons_self ..)⟩
  · have c1 : (¬ (most < (0 : Int))) := (of_decide_eq_false c1r)
    refine Cfg.reg rfl [0, 5, 13] [] (Γ' := [(13, [], .bool (decide (((fourF z).1 : Int) > (most % 18446744073709551616)))), (5, [], .int .u64 ((fourF z).1 : Int)), (0, [], .pointer (some ⟨b, 0, none⟩))]) (nd := (fun _ => [])) (fun _ => by kernel_rfl) trivial ?_
    refine Cfg.cond rfl (b := (decide (((fourF z).1 : Int) > (most % 18446744073709551616)))) (by kernel_rfl) (fun c3r => ?_) (fun c3r => ?_)
    · have c3 : (((fourF z).1 : Int) > (most % 18446744073709551616)) := (of_decide_eq_true c3r)
      refine Cfg.begL rfl ?_
      refine CfgL.pure 1 [] none (Γ' := [(14, [], .pointer (some ⟨b, 0, none⟩)), (13, [], .bool (decide (((fourF z).1 : Int) > (most % 18446744073709551616)))), (5, [], .int .u64 ((fourF z).1 : Int)), (0, [], .pointer (some ⟨b, 0, none⟩))]) (nd := (fun _ => [])) (by kernel_rfl) (fun _ => by kernel_rfl) trivial ?_
      refine CfgL.eff (o := _) rfl (by kernel_rfl) (by kernel_rfl) (Eff.callM (vs := [.pointer (some ⟨b, 0, none⟩), .int .i64 6]) (.tuple #[]) 0 (b := b) (ob := .cells (inR ((fourF z).2)) 70 (0, 0)) (.cells (inR (failF ((fourF z).2) (6 : Int))) 70 (0, 0)) rfl Try.func60 rfl rfl (by kernel_rfl) (by kernel_rfl) (fun w1 h => rFail b ((fourF z).2) (6 : Int) w1 (h.own (b, _) (List.mem_of_getElem? (i := 0) rfl)))) ?_
      rintro ⟨⟩ -
      refine CfgL.done rfl ?_
      refine Conv.cfg (Γ' := []) (Conv.mk (by kernel_rfl)) ?_
      refine Cfg.reg rfl [4] [] (Γ' := [(4, [], .int .i64 0)]) (nd := (fun _ => [])) (fun _ => by kernel_rfl) trivial ?_
      refine Cfg.ret rfl (rs := [.tmp 4]) rfl [.int .i64 0] ⟨by kernel_rfl, trivial⟩ (fun w1 hp => ?_)
      have hmx : (if 0 > most then (0 : Int) else most) = most := if_neg (by omega)
      have hx : boundF z most 6 = (0, failF (fourF z).2 6) := if_pos (by rw [hmx]; omega)
      rw [hx]
      exact ⟨rfl, hp.ext, hp.own (b, _) (List.mem_cons_self ..)⟩
    · have c3 : (¬ (((fourF z).1 : Int) > (most % 18446744073709551616))) := (of_decide_eq_false c3r)
      refine Cfg.reg rfl [4] [] (Γ' := [(4, [], .int .i64 ((fourF z).1 : Int))]) (nd := (fun _ => [((-9223372036854775808 : Int) ≤ ((fourF z).1 : Int) ∧ ((fourF z).1 : Int) ≤ 9223372036854775807)])) (fun _ => by kernel_rfl) ⟨(by omega), trivial⟩ ?_
      refine Cfg.ret rfl (rs := [.tmp 4]) rfl [.int .i64 ((fourF z).1 : Int)] ⟨by kernel_rfl, trivial⟩ (fun w1 hp => ?_)
      have hmx : (if 0 > most then (0 : Int) else most) = most := if_neg (by omega)
      have hx : boundF z most 6 = fourF z := if_neg (by rw [hmx]; omega)
      rw [hx]
      exact ⟨rfl, hp.ext, hp.own (b, _) (List.mem_cons_self ..)⟩

set_option maxRecDepth 100000 in
theorem rDigI (b : Nat) (z : IN) (w : World) (hB : w.heap[b]? = some (.cells (inR z) 70 (0, 0))) :
    Calls Try.prog 63 #[.pointer (some ⟨b, 0, none⟩)] w fun e w' => e = .returned (.agg (bv (digF z).1)) ∧ Ext [b] w w' ∧ w'.heap[b]? = some (.cells (inR (digF z).2) 70 (0, 0)) := by
  have hnn := next_none z 32
  have hts := tx_size (nextF z (32 : Int)).1
  have hnl : (nextF z (32 : Int)).1.length ≤ 32 := nextF_len z 32
  refine enter (vs := [.pointer (some ⟨b, 0, none⟩)]) [b] [] [(b, .cells (inR z) 70 (0, 0))] Try.func63 rfl (by kernel_rfl) (HP.startM (R := []) (fun _ h => by cases h) hB (by simp)) ?_
  refine Cfg.begL rfl ?_
  refine CfgL.eff (o := _) rfl (by kernel_rfl) (by kernel_rfl) (Eff.alloc (z := (.agg (bv (List.replicate 32 0)))) rfl (by kernel_rfl)) ?_
  rintro rs ⟨hrs, nrs⟩
  refine CfgL.done rfl ?_
  refine Cfg.begL rfl ?_
  refine CfgL.eff (o := _) rfl (by kernel_rfl) (by kernel_rfl) (Eff.alloc (z := (.agg (bv (List.replicate 32 0)))) rfl (by kernel_rfl)) ?_
  rintro d ⟨hd, nd⟩
  refine CfgL.done rfl ?_
  refine Cfg.begL rfl ?_
  refine CfgL.pure 1 [] none (Γ' := [(6, [], .pointer (some ⟨b, 0, none⟩)), (3, [], .pointer (some ⟨d, 0, none⟩)), (2, [], .pointer (some ⟨rs, 0, none⟩)), (0, [], .pointer (some ⟨b, 0, none⟩))]) (nd := (fun _ => [])) (by kernel_rfl) (fun _ => by kernel_rfl) trivial ?_
  refine CfgL.eff (o := _) rfl (by kernel_rfl) (by kernel_rfl) (Eff.callM (vs := [.pointer (some ⟨b, 0, none⟩), .int .i64 32]) (.string (tx (nextF z (32 : Int)).1)) 2 (b := b) (ob := .cells (inR z) 70 (0, 0)) (.cells (inR ((nextF z (32 : Int)).2)) 70 (0, 0)) rfl Try.func61 rfl rfl (by kernel_rfl) (by kernel_rfl) (fun w1 h => rRaw b z (32 : Int) w1 (h.own (b, _) (List.mem_of_getElem? (i := 2) rfl)))) ?_
  rintro ⟨⟩ -
  refine CfgL.pure 1 [] (some [2, 3, 4]) (Γ' := [(4, [], .string (tx (nextF z (32 : Int)).1)), (3, [], .pointer (some ⟨d, 0, none⟩)), (2, [], .pointer (some ⟨rs, 0, none⟩))]) (nd := (fun _ => [])) (by kernel_rfl) (fun _ => by kernel_rfl) trivial ?_
  refine CfgL.done rfl ?_
  refine Cfg.reg rfl [2, 3, 4, 5] [] (Γ' := [(5, [], .int .i64 0), (4, [], .string (tx (nextF z (32 : Int)).1)), (3, [], .pointer (some ⟨d, 0, none⟩)), (2, [], .pointer (some ⟨rs, 0, none⟩))]) (nd := (fun _ => [])) (fun _ => by kernel_rfl) trivial ?_
  refine Cfg.setO (O' := [(d, .cells (bv (digK (nextF z (32 : Int)).1 0)) 45 (0, 0)), (rs, .cells (bv (List.replicate 32 0)) 45 (0, 0)), (b, .cells (inR ((nextF z (32 : Int)).2)) 70 (0, 0))]) (congrArg (fun (xq : Array Value) => ([(d, .cells xq 45 (0, 0)), (rs, .cells (bv (List.replicate 32 0)) 45 (0, 0)), (b, .cells (inR ((nextF z (32 : Int)).2)) 70 (0, 0))] : List (Nat × Obj))) (by rw [digK_zero]; rfl)) ?_
  refine Cfg.loop rfl (ι := Nat) (fun (k : Nat) => [(5, [], .int .i64 (k : Int)), (4, [], .string (tx (nextF z (32 : Int)).1)), (3, [], .pointer (some ⟨d, 0, none⟩)), (2, [], .pointer (some ⟨rs, 0, none⟩))]) (fun (k : Nat) => [(d, .cells (bv (digK (nextF z (32 : Int)).1 k)) 45 (0, 0)), (rs, .cells (bv (List.replicate 32 0)) 45 (0, 0)), (b, .cells (inR ((nextF z (32 : Int)).2)) 70 (0, 0))]) (fun (k : Nat) => (k ≤ (nextF z (32 : Int)).1.length)) (fun (k : Nat) => (nextF z (32 : Int)).1.length - k) 0 ?_ (Conv.mk (by kernel_rfl)) (.cons_cons _ (.cons_cons _ (.cons_cons _ .slnil))) ?_
  · exact Nat.zero_le _
  · rintro k hk
    refine Cfg.reg rfl [2, 3, 4, 5, 11] [] (Γ' := [(11, [], .bool (decide ((k : Int) < ((tx (nextF z (32 : Int)).1).size : Int)))), (5, [], .int .i64 (k : Int)), (4, [], .string (tx (nextF z (32 : Int)).1)), (3, [], .pointer (some ⟨d, 0, none⟩)), (2, [], .pointer (some ⟨rs, 0, none⟩))]) (nd := (fun _ => [])) (fun _ => by kernel_rfl) trivial ?_
    refine Cfg.cond rfl (b := (decide ((k : Int) < ((tx (nextF z (32 : Int)).1).size : Int)))) (by kernel_rfl) (fun c1r => ?_) (fun c1r => ?_)
    · have c1 : ((k : Int) < ((tx (nextF z (32 : Int)).1).size : Int)) := (of_decide_eq_true c1r)
      refine Cfg.begL rfl ?_
      refine CfgL.pure 5 [] none (Γ' := [(18, [], .pointer (some ⟨d, k, none⟩)), (17, [], .int .u8 (sbyte (tx (nextF z (32 : Int)).1) (k : Int))), (16, [], .int .i64 (k : Int)), (15, [], .string (tx (nextF z (32 : Int)).1)), (14, [], .int .i64 (k : Int)), (11, [], .bool (decide ((k : Int) < ((tx (nextF z (32 : Int)).1).size : Int)))), (5, [], .int .i64 (k : Int)), (4, [], .string (tx (nextF z (32 : Int)).1)), (3, [], .pointer (some ⟨d, 0, none⟩)), (2, [], .pointer (some ⟨rs, 0, none⟩))]) (nd := (fun _ => [(0 ≤ (k : Int) ∧ (k : Int) < ((tx (nextF z (32 : Int)).1).size : Int)), (0 ≤ (k : Int) ∧ (k : Int) < (32 : Int))])) (by kernel_rfl) (fun _ => by kernel_rfl) ⟨(by omega), (by omega), trivial⟩ ?_
      refine CfgL.eff (o := _) rfl (by kernel_rfl) (by kernel_rfl) (Eff.store1 (b := d) (off := k) (v := .int .u8 (sbyte (tx (nextF z (32 : Int)).1) (k : Int))) rfl (by kernel_rfl) (by kernel_rfl) rfl (by kernel_rfl) 0 (cs := (bv (digK (nextF z (32 : Int)).1 k))) (e := 45) (by kernel_rfl) (by rw [bv_size, digK_len (by omega) (by omega)]; omega)) ?_
      rintro ⟨⟩ -
      refine CfgL.done rfl ?_
      refine Conv.cfg (Γ' := [(5, [], .int .i64 (k : Int)), (4, [], .string (tx (nextF z (32 : Int)).1)), (3, [], .pointer (some ⟨d, 0, none⟩)), (2, [], .pointer (some ⟨rs, 0, none⟩))]) (Conv.mk (by kernel_rfl)) ?_
      refine Cfg.reg rfl [2, 3, 4, 5] [] (Γ' := [(5, [], .int .i64 ((k : Int) + 1)), (4, [], .string (tx (nextF z (32 : Int)).1)), (3, [], .pointer (some ⟨d, 0, none⟩)), (2, [], .pointer (some ⟨rs, 0, none⟩))]) (nd := (fun _ => [((-9223372036854775808 : Int) ≤ ((k : Int) + 1) ∧ ((k : Int) + 1) ≤ 9223372036854775807)])) (fun _ => by kernel_rfl) ⟨(by omega), trivial⟩ ?_
      refine Cfg.setO (O' := [(d, .cells (bv (digK (nextF z (32 : Int)).1 (k + 1))) 45 (0, 0)), (rs, .cells (bv (List.replicate 32 0)) 45 (0, 0)), (b, .cells (inR ((nextF z (32 : Int)).2)) 70 (0, 0))]) (congrArg (fun (xq : Array Value) => ([(d, .cells xq 45 (0, 0)), (rs, .cells (bv (List.replicate 32 0)) 45 (0, 0)), (b, .cells (inR ((nextF z (32 : Int)).2)) 70 (0, 0))] : List (Nat × Obj))) (by rw [sbyte_gb, bv_set (by omega) (by have := byteLt (gb (nextF z (32 : Int)).1 k); omega), u8_same', show gb (nextF z (32 : Int)).1 k = (nextF z (32 : Int)).1.getD k 0 from rfl, digK_set (by omega) (by omega)])) ?_
      refine Cfg.again rfl (k + 1) (by show k + 1 ≤ (nextF z (32 : Int)).1.length; omega) (by show (nextF z (32 : Int)).1.length - (k + 1) < (nextF z (32 : Int)).1.length - k; omega) (Conv.mk (by kernel_rfl)) (.cons_cons _ (.cons_cons _ (.cons_cons _ .slnil)))
    · have c1 : (¬ ((k : Int) < ((tx (nextF z (32 : Int)).1).size : Int))) := (of_decide_eq_false c1r)
      have hke : k = (nextF z (32 : Int)).1.length := by omega
      refine Cfg.setO (O' := [(d, .cells (bv (dig32 (nextF z (32 : Int)).1)) 45 (0, 0)), (rs, .cells (bv (List.replicate 32 0)) 45 (0, 0)), (b, .cells (inR ((nextF z (32 : Int)).2)) 70 (0, 0))]) (congrArg (fun (xq : Array Value) => ([(d, .cells xq 45 (0, 0)), (rs, .cells (bv (List.replicate 32 0)) 45 (0, 0)), (b, .cells (inR ((nextF z (32 : Int)).2)) 70 (0, 0))] : List (Nat × Obj))) (by rw [hke, digK_end hnn])) ?_
      refine Cfg.begL rfl ?_
      refine CfgL.pure 1 [(0, false, some (.agg (bv (dig32 (nextF z (32 : Int)).1))))] none (Γ' := [(19, [], .agg (bv (dig32 (nextF z (32 : Int)).1))), (11, [], .bool (decide ((k : Int) < ((tx (nextF z (32 : Int)).1).size : Int)))), (5, [], .int .i64 (k : Int)), (4, [], .string (tx (nextF z (32 : Int)).1)), (3, [], .pointer (some ⟨d, 0, none⟩)), (2, [], .pointer (some ⟨rs, 0, none⟩))]) (nd := (fun S => [(∀ w1, S w1 → (loadVar 45 ⟨d, 0, none⟩).run Try.prog w1 = .ok (.agg (bv (dig32 (nextF z (32 : Int)).1))) w1)])) (by kernel_rfl) (fun _ => by kernel_rfl) ⟨(fun w1 h => h.oload 0 rfl Try.underlying45 rfl (n := 32) (by kernel_rfl) ((bv_size _).trans (dig32_len _))), trivial⟩ ?_
      refine CfgL.eff (o := _) rfl (by kernel_rfl) (by kernel_rfl) (Eff.storeN (b := rs) (off := 0) (vs := (bv (dig32 (nextF z (32 : Int)).1))) (n := 32) rfl (by kernel_rfl) (by kernel_rfl) (by kernel_rfl) ((bv_size _).trans (dig32_len _)) (all_bv _) 1 (cs := (bv (List.replicate 32 0))) (e := 45) (by kernel_rfl) (by rw [zsz32]; omega)) ?_
      rintro ⟨⟩ -
      refine CfgL.setO (O' := [(d, .cells (bv (dig32 (nextF z (32 : Int)).1)) 45 (0, 0)), (rs, .cells (bv (dig32 (nextF z (32 : Int)).1)) 45 (0, 0)), (b, .cells (inR ((nextF z (32 : Int)).2)) 70 (0, 0))]) (congrArg (fun (xq : Array Value) => ([(d, .cells (bv (dig32 (nextF z (32 : Int)).1)) 45 (0, 0)), (rs, .cells xq 45 (0, 0)), (b, .cells (inR ((nextF z (32 : Int)).2)) 70 (0, 0))] : List (Nat × Obj))) (spl_all (((bv_size _).trans (dig32_len _)).trans zsz32.symm))) ?_
      refine CfgL.done rfl ?_
      refine Conv.cfg (Γ' := [(2, [], .pointer (some ⟨rs, 0, none⟩))]) (Conv.mk (by kernel_rfl)) ?_
      refine Cfg.ret rfl (rs := [.cell 2 45]) rfl [.agg (bv (dig32 (nextF z (32 : Int)).1))] ⟨⟨_, by kernel_rfl, (fun w1 h => h.oload 1 rfl Try.underlying45 rfl (n := 32) (by kernel_rfl) ((bv_size _).trans (dig32_len _)))⟩, trivial⟩ (fun w1 hp => ?_)
      exact ⟨rfl, hp.ext, hp.own (b, _) (List.mem_of_getElem? (i := 2) rfl)⟩

set_option maxRecDepth 100000 in
theorem rEndI (b : Nat) (z : IN) (w : World) (hB : w.heap[b]? = some (.cells (inR z) 70 (0, 0))) :
    Calls Try.prog 34 #[.pointer (some ⟨b, 0, none⟩)] w fun e w' => e = .returned (.int .i64 (endF z)) ∧ Ext [] w w' := by
  have hts := tx_size z.rest
  refine enter (vs := [.pointer (some ⟨b, 0, none⟩)]) [] [(b, .cells (inR z) 70 (0, 0))] [] Try.func34 rfl (by kernel_rfl) (HP.ofHas (fun e he => by rw [List.mem_singleton.1 he]; exact hB)) ?_
  refine Cfg.reg rfl [0] [] (Γ' := [(0, [], .pointer (some ⟨b, 0, none⟩))]) (nd := (fun _ => [])) (fun _ => by kernel_rfl) trivial ?_
  refine Cfg.reg rfl [0, 15] [(0, false, none), (0, false, none), (0, false, none), (0, false, some (.int .i64 z.er)), (0, false, none), (0, false, none), (0, false, none), (0, false, none), (0, false, none), (0, false, some (.string (tx z.rest)))] (Γ' := [(15, [], .bool ((z.er == (0 : Int)) && (decide (((tx z.rest).size : Int) > (0 : Int))))), (0, [], .pointer (some ⟨b, 0, none⟩))]) (nd := (fun S => [(∀ w1, S w1 → w1.cell? ⟨b, 1, none⟩ = some (.int .i64 z.er)), ((.bool (z.er == (0 : Int)) : Value) = .bool true → (∀ w1, S w1 → w1.cell? ⟨b, 0, none⟩ = some (.string (tx z.rest))))])) (fun _ => by kernel_rfl) ⟨(fun w1 h => h.rcell 0 rfl rfl), (fun g0 => have q0 : (z.er = (0 : Int)) := (beq_iff_eq.1 (boolV g0)); (fun w1 h => h.rcell 0 rfl rfl)), trivial⟩ ?_
  refine Cfg.cond rfl (b := ((z.er == (0 : Int)) && (decide (((tx z.rest).size : Int) > (0 : Int))))) (by kernel_rfl) (fun c1r => ?_) (fun c1r => ?_)
  · have c1 : ((z.er = (0 : Int)) ∧ (((tx z.rest).size : Int) > (0 : Int))) := ⟨(beq_iff_eq.1 (andT1 c1r)), (of_decide_eq_true (andT2 c1r))⟩
    refine Cfg.reg rfl [2] [] (Γ' := [(2, [], .int .i64 4)]) (nd := (fun _ => [])) (fun _ => by kernel_rfl) trivial ?_
    refine Cfg.ret rfl (rs := [.tmp 2]) rfl [.int .i64 4] ⟨by kernel_rfl, trivial⟩ (fun w1 hp => ?_)
    exact ⟨by rw [show endF z = 4 from (if_neg (by omega)).trans (if_pos (by omega))]; rfl, hp.ext⟩
  · have c1 : ((z.er ≠ (0 : Int)) ∨ (¬ (((tx z.rest).size : Int) > (0 : Int)))) := ((andF c1r).elim (fun h => Or.inl (beq_eq_false_iff_ne.1 h)) (fun h => Or.inr (of_decide_eq_false h)))
    refine Cfg.reg rfl [2] [(0, false, none), (0, false, none), (0, false, none), (0, false, some (.int .i64 z.er))] (Γ' := [(2, [], .int .i64 z.er)]) (nd := (fun S => [(∀ w1, S w1 → w1.cell? ⟨b, 1, none⟩ = some (.int .i64 z.er))])) (fun _ => by kernel_rfl) ⟨(fun w1 h => h.rcell 0 rfl rfl), trivial⟩ ?_
    refine Cfg.ret rfl (rs := [.tmp 2]) rfl [.int .i64 z.er] ⟨by kernel_rfl, trivial⟩ (fun w1 hp => ?_)
    have hx : endF z = z.er := by
      unfold endF; split
      · rfl
      · split
        · omega
        · omega
    exact ⟨by rw [hx]; rfl, hp.ext⟩

end Go.Proofs.Ytejgpniaoccpoaa
