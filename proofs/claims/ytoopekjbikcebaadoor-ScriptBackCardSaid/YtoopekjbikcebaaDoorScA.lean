/- script: numbers as texts of digits; a byte written to a builder; the words. -/
import Derived.Test.YtoopekjbikcebaaDoorScP
import Derived.Test.YtoopekjbikcebaaDoorLayS
import Derived.Test.YtoopekjbikcebaaDoorBld
namespace Go.Proofs.YtoopekjbikcebaaDoor
open K
set_option linter.unusedVariables false

def tx (l : List UInt8) : ByteArray := ⟨l.toArray⟩
theorem tx_list (l : List UInt8) : (tx l).data.toList = l := rfl
theorem tx_size (l : List UInt8) : (tx l).size = l.length := by simp [tx, ByteArray.size]
theorem tx_back (s : ByteArray) : tx s.data.toList = s := by cases s; rfl
theorem tx_app (a b : List UInt8) : tx a ++ tx b = tx (a ++ b) := by
  unfold tx
  apply ByteArray.ext
  rw [ByteArray.data_append]
  simp
/-- The kinds' words. -/
def wordsV : Array Value := #[.string (tx []), .string (tx wdA1), .string (tx wdA2), .string (tx wdA3), .string (tx wdA4)]
/-- The table of the powers of ten. -/
def pv : Array Value := (Lib.pow10Tab.map fun z => Value.int .u64 z).toArray
theorem tab_is {w : World} {t : TypeId} {fr : Nat × Nat} (h : w.heap[0]? = some (.cells pv t fr)) : Lib.TabIs Tryd.prog w "internal/strconv.uint64pow10" .u64 Lib.pow10Tab := by
  have h1 := L.digits.m17
  unfold Lib.TabIs World.var?
  rw [h1]
  show (match w.heap[0]? with | some (.cells cs _ _) => some cs | _ => none) = _
  rw [h]; rfl
theorem uDigits (n : Nat) (h1 : 1 ≤ n) (h2 : n < 18446744073709551616) {w : World} {t : TypeId} {fr : Nat × Nat} (h : w.heap[0]? = some (.cells pv t fr)) : Calls Tryd.prog 37 #[.int .u64 n] w fun e w' => e = .returned (.int .i64 (Lib.nDigits n : Int)) ∧ Ext [] w w' :=
  (Any.internal_strconv_numDigits L.digits n h1 h2 w (tab_is h)).mono (by rintro e w' ⟨rfl, rfl⟩; exact ⟨rfl, Ext.refl _ _⟩)
theorem uSmall (n : Nat) (h : n < 100) (w : World) : Calls Tryd.prog 36 #[.int .i64 n] w fun e w' => e = .returned (.string (tx (Lib.decDigits n))) ∧ Ext [] w w' :=
  (Any.internal_strconv_small L.small n h w).mono (by rintro e w' ⟨rfl, rfl⟩; exact ⟨rfl, Ext.refl _ _⟩)
theorem zget (k i : Nat) : ((List.replicate k (0 : UInt8))[i]?).getD 0 = 0 := by rw [List.getElem?_replicate]; split <;> rfl
def eb (b : UInt8) : Value := Value.int .u8 (b.toNat : Int)
theorem uBase (b nd n : Nat) (t : TypeId) (w : World) (hb : w.heap[b]? = some (.cells (bv (List.replicate 24 0)) t (0, 0))) (hnd : nd ≤ 24) (hn : n < 10 ^ nd) (h64 : n < 18446744073709551616) :
    Calls Tryd.prog 38 #[.slice (some ⟨b, 0, none⟩) nd 24, .int .u64 n] w fun e w' => ∃ dk : Array UInt8, (∃ v, Lib.FmtInv nd n 0 v dk) ∧ e = .returned (.tuple #[]) ∧ ∃ R1, HP w [b] R1 [(b, .cells (bv (dk.toList ++ List.replicate (24 - nd) 0)) t (0, 0))] w' := by
  have hH : Go.Sort.Holds (fun (b : UInt8) => Value.int .u8 (b.toNat : Int)) w b 0 (Array.replicate nd 0) := by
    intro j hj
    rw [Array.size_replicate] at hj
    refine ⟨?_, ?_⟩
    · have e1 : (List.replicate 24 (0 : UInt8)).getD j 0 = 0 := by rw [List.getD_eq_getElem?_getD, List.getElem?_replicate]; split <;> rfl
      have e2 : (Array.replicate nd (0 : UInt8))[j]! = 0 := by rw [getElem!_pos _ j (by simpa using hj)]; simp
      rw [cell_cells hb, Nat.zero_add, bv_get (n := 24) (by simp) (by omega), e1, e2]
    · unfold World.frozen?
      simp only [hb]
      simp
  have hf := Any.internal_strconv_formatBase10 L.base10 b 0 24 n (Array.replicate nd 0) w hH (by rw [Array.size_replicate]; exact hn) h64 (by rw [Array.size_replicate]; omega)
  rw [Array.size_replicate] at hf
  clear hn h64
  refine hf.mono ?_
  rintro e w' ⟨rfl, k, v, dk, rfl, hF⟩
  have hsz := hF.size
  refine ⟨dk, ⟨v, hF⟩, rfl, [], ⟨⟨rfl, rfl, rfl, ?_, ?_⟩, (fun e he => by cases he), (fun e he => by cases he), ?_, by simp, fun e he => ?_⟩⟩
  · show w.heap.size ≤ (w.heap.modify b _).size
    rw [Array.size_modify]; exact Nat.le_refl _
  · intro i hi hn
    show (w.heap.modify b _)[i]? = _
    rw [Array.getElem?_modify, if_neg (fun h => hn (by rw [h]; exact List.mem_singleton.2 rfl))]
  · intro e he
    rw [List.mem_singleton.1 he]
    show (w.heap.modify b _)[b]? = _
    rw [Array.getElem?_modify, if_pos rfl, hb]
    show some (Obj.cells (Go.Sort.putCells (fun (b : UInt8) => Value.int .u8 (b.toNat : Int)) 0 dk (bv (List.replicate 24 0))) t (0, 0)) = _
    refine congrArg (fun c => some (Obj.cells c t (0, 0))) ?_
    apply Array.ext_getElem?
    intro i
    rw [Go.Sort.putCells, Array.getElem?_mapIdx]
    by_cases hi : i < 24
    · rw [bv_get (n := 24) (by simp) hi, bv_get (n := 24) (by simp; omega) hi, Option.map_some]
      by_cases hd : i < dk.size
      · rw [if_pos ⟨Nat.zero_le _, by omega⟩, Nat.sub_zero, getElem!_pos dk i hd]
        rw [List.getD_eq_getElem?_getD, List.getElem?_append_left (by simpa using hd)]
        simp [hd]
      · rw [if_neg (by omega), List.getD_eq_getElem?_getD, List.getD_eq_getElem?_getD, List.getElem?_append_right (by simp; omega), zget, zget]
    · rw [Array.getElem?_eq_none (by simp [bv_size]; omega), Array.getElem?_eq_none (by simp [bv_size]; omega)]; rfl
  · rw [List.mem_singleton.1 he]; exact .inr (List.mem_singleton.2 rfl)
theorem digits_row {n v : Nat} {dk : Array UInt8} (h : Lib.FmtInv (Lib.nDigits n) n 0 v dk) : dk.toList = Lib.decDigits n := by
  apply List.ext_getElem
  · rw [Array.length_toList, h.size, Lib.decDigits_length]
  · intro j h1 h2
    have := Lib.row_is_numeral h j h2
    rw [this, getElem!_pos dk j (by simpa using h1)]
    simp
theorem nd_le {n : Nat} (h : n ≤ 4294967295) : Lib.nDigits n ≤ 10 := by
  have := dec_len (u := n) (k := 9) (by omega)
  rwa [Lib.decDigits_length] at this

set_option maxRecDepth 100000 in
theorem uFormat (n : Nat) (t0 : TypeId) (fr0 : Nat × Nat) (w : World) (hn : n ≤ 4294967295) (hR : Has w [(0, .cells pv t0 fr0)]) :
    Calls Tryd.prog 31 #[.int .u64 (n : Int), .int .i64 10] w fun e w' => e = .returned (.string (tx (Lib.decDigits n))) ∧ Ext [] w w' := by
  have hnd := nd_le hn
  refine enter (vs := [.int .u64 (n : Int), .int .i64 10]) [] [(0, .cells pv t0 fr0)] [] Tryd.func31 rfl (by kernel_rfl) (HP.ofHas hR) ?_
  refine Cfg.reg rfl [0, 1] [] (Γ' := [(0, [], .int .u64 (n : Int)), (1, [], .int .i64 10)]) (nd := (fun _ => [])) (fun _ => by kernel_rfl) trivial ?_
  refine Cfg.reg rfl [0, 1, 10] [] (Γ' := [(10, [], .bool true), (0, [], .int .u64 (n : Int)), (1, [], .int .i64 10)]) (nd := (fun _ => [])) (fun _ => by kernel_rfl) trivial ?_
  refine Cfg.condT rfl (b := true) (by kernel_rfl) rfl ?_
  refine Cfg.reg rfl [0, 12] [] (Γ' := [(12, [], .bool (decide ((n : Int) < (100 : Int)))), (0, [], .int .u64 (n : Int))]) (nd := (fun _ => [])) (fun _ => by kernel_rfl) trivial ?_
  refine Cfg.cond rfl (b := (decide ((n : Int) < (100 : Int)))) (by kernel_rfl) (fun c2r => ?_) (fun c2r => ?_)
  · have c2 : ((n : Int) < (100 : Int)) := (of_decide_eq_true c2r)
    refine Cfg.begL rfl ?_
    refine CfgL.pure 2 [] (some [14]) (Γ' := [(14, [], .int .i64 (n : Int))]) (nd := (fun _ => [((-9223372036854775808 : Int) ≤ (n : Int) ∧ (n : Int) ≤ 9223372036854775807)])) (by kernel_rfl) (fun _ => by kernel_rfl) ⟨(by omega), trivial⟩ ?_
    refine CfgL.eff (o := _) rfl (by kernel_rfl) (by kernel_rfl) (Eff.callA (vs := [.int .i64 (n : Int)]) (.string (tx (Lib.decDigits n))) rfl Tryd.func36 rfl rfl (by kernel_rfl) (fun w1 _ => uSmall n (by omega) w1)) ?_
    rintro ⟨⟩ -
    refine CfgL.pure 1 [] (some [4]) (Γ' := [(4, [], .string (tx (Lib.decDigits n)))]) (nd := (fun _ => [])) (by kernel_rfl) (fun _ => by kernel_rfl) trivial ?_
    refine CfgL.done rfl ?_
    refine Cfg.ret rfl (rs := [.tmp 4]) rfl [.string (tx (Lib.decDigits n))] ⟨by kernel_rfl, trivial⟩ (fun w1 hp => ?_)
    exact ⟨rfl, hp.ext⟩
  · have c2 : (¬ ((n : Int) < (100 : Int))) := (of_decide_eq_false c2r)
    refine Cfg.begL rfl ?_
    refine CfgL.eff (o := _) rfl (by kernel_rfl) (by kernel_rfl) (Eff.alloc (z := (.agg (bv (List.replicate 24 0)))) rfl (by kernel_rfl)) ?_
    rintro b ⟨hb, nb⟩
    refine CfgL.done rfl ?_
    refine Conv.cfg (Γ' := [(5, [], .pointer (some ⟨b, 0, none⟩)), (0, [], .int .u64 (n : Int))]) (Conv.mk (by kernel_rfl)) ?_
    refine Cfg.begL rfl ?_
    refine CfgL.pure 1 [] none (Γ' := [(16, [], .int .u64 (n : Int)), (5, [], .pointer (some ⟨b, 0, none⟩)), (0, [], .int .u64 (n : Int))]) (nd := (fun _ => [])) (by kernel_rfl) (fun _ => by kernel_rfl) trivial ?_
    refine CfgL.eff (o := _) rfl (by kernel_rfl) (by kernel_rfl) (Eff.callA (vs := [.int .u64 (n : Int)]) (.int .i64 ((Lib.nDigits n) : Int)) rfl Tryd.func37 rfl rfl (by kernel_rfl) (fun w1 h => uDigits n (by omega) (by omega) (h.ro _ (List.mem_singleton.2 rfl)))) ?_
    rintro ⟨⟩ -
    refine CfgL.pure 1 [] (some [0, 5, 6]) (Γ' := [(6, [], .int .i64 ((Lib.nDigits n) : Int)), (5, [], .pointer (some ⟨b, 0, none⟩)), (0, [], .int .u64 (n : Int))]) (nd := (fun _ => [])) (by kernel_rfl) (fun _ => by kernel_rfl) trivial ?_
    refine CfgL.done rfl ?_
    refine Cfg.begL rfl ?_
    refine CfgL.pure 3 [] (some [5, 6, 19, 20]) (Γ' := [(20, [], .int .u64 (n : Int)), (19, [], .slice (some ⟨b, 0, none⟩) (((Lib.nDigits n))) 24), (6, [], .int .i64 ((Lib.nDigits n) : Int)), (5, [], .pointer (some ⟨b, 0, none⟩))]) (nd := (fun _ => [(0 ≤ ((Lib.nDigits n) : Int)), (((Lib.nDigits n)) ≤ 24)])) (by kernel_rfl) (fun _ => by kernel_rfl) ⟨(by omega), (by omega), trivial⟩ ?_
    refine CfgL.eff (o := _) rfl (by kernel_rfl) (by kernel_rfl) (Eff.callH (vs := [.slice (some ⟨b, 0, none⟩) (((Lib.nDigits n))) 24, .int .u64 (n : Int)]) (ι := Array UInt8) (fun _ => (.tuple #[] : Value)) [(b, .cells (bv (List.replicate 24 0)) 80 (0, 0))] (fun dk => [(b, .cells (bv (dk.toList ++ List.replicate (24 - Lib.nDigits n) 0)) 80 (0, 0))]) (fun dk => ∃ v, Lib.FmtInv (Lib.nDigits n) n 0 v dk) [] [] rfl rfl Tryd.func38 rfl rfl (by kernel_rfl) (fun w1 h hh hd => uBase b (Lib.nDigits n) n 80 w1 (hh _ (List.mem_singleton.2 rfl)) (by omega) (Lib.lt_pow_nDigits n) (by omega))) ?_
    rintro dk ⟨vq, hF⟩
    have hdk := digits_row hF
    refine CfgL.done rfl ?_
    refine Conv.cfg (Γ' := [(6, [], .int .i64 ((Lib.nDigits n) : Int)), (5, [], .pointer (some ⟨b, 0, none⟩))]) (Conv.mk (by kernel_rfl)) ?_
    refine Cfg.reg rfl [4] [(0, false, none), (0, false, none), (0, false, some (.string (tx (Lib.decDigits n))))] (Γ' := [(4, [], .string (tx (Lib.decDigits n)))]) (nd := (fun S => [(0 ≤ ((Lib.nDigits n) : Int)), (((Lib.nDigits n)) ≤ 24), (∀ w1, S w1 → (Conv.bytesToString (.slice (some ⟨b, 0, none⟩) (((Lib.nDigits n))) 24)).run Tryd.prog w1 = .ok (.string (tx (Lib.decDigits n))) w1)])) (fun _ => by kernel_rfl) ⟨(by omega), (by omega), (fun w1 h => bytes_str (l := Lib.decDigits n) (Lib.decDigits_length n) (fun j hj => by rw [Nat.zero_add]; refine (h.ocell 0 rfl (bv_get (n := 24) (by rw [hdk, List.length_append, List.length_replicate, Lib.decDigits_length]; omega) (by omega))).trans ?_; rw [hdk, List.getD_eq_getElem?_getD, List.getElem?_append_left (by rw [Lib.decDigits_length]; exact hj)]; rfl)), trivial⟩ ?_
    refine Cfg.ret rfl (rs := [.tmp 4]) rfl [.string (tx (Lib.decDigits n))] ⟨by kernel_rfl, trivial⟩ (fun w1 hp => ?_)
    exact ⟨rfl, hp.ext⟩

set_option maxRecDepth 100000 in
theorem uFmt (n : Nat) (t0 : TypeId) (fr0 : Nat × Nat) (w : World) (hn : n ≤ 4294967295) (hR : Has w [(0, .cells pv t0 fr0)]) :
    Calls Tryd.prog 22 #[.int .u64 (n : Int), .int .i64 10] w fun e w' => e = .returned (.string (tx (Lib.decDigits n))) ∧ Ext [] w w' := by
  refine enter (vs := [.int .u64 (n : Int), .int .i64 10]) [] [(0, .cells pv t0 fr0)] [] Tryd.func22 rfl (by kernel_rfl) (HP.ofHas hR) ?_
  refine Cfg.reg rfl [0, 1] [] (Γ' := [(0, [], .int .u64 (n : Int)), (1, [], .int .i64 10)]) (nd := (fun _ => [])) (fun _ => by kernel_rfl) trivial ?_
  refine Cfg.begL rfl ?_
  refine CfgL.pure 2 [] (some [5, 6]) (Γ' := [(6, [], .int .i64 10), (5, [], .int .u64 (n : Int))]) (nd := (fun _ => [])) (by kernel_rfl) (fun _ => by kernel_rfl) trivial ?_
  refine CfgL.eff (o := _) rfl (by kernel_rfl) (by kernel_rfl) (Eff.callA (vs := [.int .u64 (n : Int), .int .i64 10]) (.string (tx (Lib.decDigits n))) rfl Tryd.func31 rfl rfl (by kernel_rfl) (fun w1 h => uFormat n t0 fr0 w1 hn (h.hasR (fun e he => he)))) ?_
  rintro ⟨⟩ -
  refine CfgL.pure 1 [] (some [4]) (Γ' := [(4, [], .string (tx (Lib.decDigits n)))]) (nd := (fun _ => [])) (by kernel_rfl) (fun _ => by kernel_rfl) trivial ?_
  refine CfgL.done rfl ?_
  refine Cfg.ret rfl (rs := [.tmp 4]) rfl [.string (tx (Lib.decDigits n))] ⟨by kernel_rfl, trivial⟩ (fun w1 hp => ?_)
  exact ⟨rfl, hp.ext⟩

set_option maxRecDepth 100000 in
theorem bWriteByte (b : Nat) (l : List UInt8) (B : Bd) (c : UInt8) (w : World) (hok : BdOk b l B) (hh : Has w (bl 46 5 b l B)) (hd : ((bl 46 5 b l B).map (·.1)).Nodup) (hr : l.length + 1 ≤ 140737488355328) :
    Calls Tryd.prog 16 #[.pointer (some ⟨b, 0, none⟩), .int .u8 (c.toNat : Int)] w fun e w' => ∃ B' : Bd, BdOk b (l ++ [c]) B' ∧ e = .returned .nilIface ∧ ∃ R1, HP w ((bl 46 5 b l B).map (·.1)) R1 (bl 46 5 b (l ++ [c]) B') w' := by
  refine enter (vs := [.pointer (some ⟨b, 0, none⟩), .int .u8 (c.toNat : Int)]) ((bl 46 5 b l B).map (·.1)) [] ([(b, .cells #[B.1, .slice (Own.a B.2) l.length (Own.c B.2)] 46 (0, 0))] ++ (Own.o 5 ((bv l).toList) B.2 ++ [])) Tryd.func16 rfl (by kernel_rfl) (bl_start hh hd (R := []) (fun _ h => by cases h) (fun _ h => by cases h)) ?_
  refine Cfg.reg rfl [0, 1] [] (Γ' := [(0, [], .pointer (some ⟨b, 0, none⟩)), (1, [], .int .u8 (c.toNat : Int))]) (nd := (fun _ => [])) (fun _ => by kernel_rfl) trivial ?_
  refine Cfg.begL rfl ?_
  refine CfgL.pure 1 [] none (Γ' := [(5, [], .pointer (some ⟨b, 0, none⟩)), (0, [], .pointer (some ⟨b, 0, none⟩)), (1, [], .int .u8 (c.toNat : Int))]) (nd := (fun _ => [])) (by kernel_rfl) (fun _ => by kernel_rfl) trivial ?_
  refine CfgL.eff (o := _) rfl (by kernel_rfl) (by kernel_rfl) (Eff.callM (vs := [.pointer (some ⟨b, 0, none⟩)]) (.tuple #[]) 0 (b := b) (ob := .cells #[B.1, .slice (Own.a B.2) l.length (Own.c B.2)] 46 (0, 0)) (.cells #[.pointer (some ⟨b, 0, none⟩), .slice (Own.a B.2) l.length (Own.c B.2)] 46 (0, 0)) rfl Tryd.func23 rfl rfl (by kernel_rfl) (by kernel_rfl) (fun w1 h => bCheck b B.1 (.slice (Own.a B.2) l.length (Own.c B.2)) w1 hok.ptr (h.own (b, _) (List.mem_cons_self ..)))) ?_
  rintro ⟨⟩ -
  refine CfgL.done rfl ?_
  refine Conv.cfg (Γ' := [(0, [], .pointer (some ⟨b, 0, none⟩)), (1, [], .int .u8 (c.toNat : Int))]) (Conv.mk (by kernel_rfl)) ?_
  refine Cfg.begL rfl ?_
  refine CfgL.pure 6 [(0, false, none), (0, false, none), (0, false, none), (0, false, none), (0, false, some (.slice (Own.a B.2) l.length (Own.c B.2)))] (some [7, 11, 12]) (Γ' := [(12, [], .int .u8 (c.toNat : Int)), (11, [], .slice (Own.a B.2) l.length (Own.c B.2)), (7, [], .pointer (some ⟨b, 0, none⟩))]) (nd := (fun S => [(∀ w1, S w1 → w1.cell? ⟨b, 1, none⟩ = some (.slice (Own.a B.2) l.length (Own.c B.2)))])) (by kernel_rfl) (fun _ => by kernel_rfl) ⟨(fun w1 h => h.ocell 0 rfl rfl), trivial⟩ ?_
  refine CfgL.eff (o := _) rfl (by kernel_rfl) (by kernel_rfl) (Eff.buildSlice (e := 5) (cells := #[.int .u8 (c.toNat : Int)]) (parts := #[(0, .int .u8 (c.toNat : Int))]) rfl (by kernel_rfl) (fun _ => by kernel_rfl)) ?_
  rintro d ⟨hd, nd⟩
  refine CfgL.eff (o := _) rfl (by kernel_rfl) (by kernel_rfl) (Eff.appendP rfl Tryd.underlying44 (by kernel_rfl) (z := .int .u8 0) (by kernel_rfl) rfl B.2 hok.own (by kernel_rfl) (b2 := d) (off2 := 0) (m := 1) (c2 := 1) (by kernel_rfl) (bv [c]).toList (by rw [bv_len, Nat.mul_one]; rfl) (all_bv _) [(d, .cells #[.int .u8 (c.toNat : Int)] 5 (0, 0)), (b, .cells #[.pointer (some ⟨b, 0, none⟩), .slice (Own.a B.2) l.length (Own.c B.2)] 46 (0, 0))] [] rfl (fun w1 h j v hj => by rw [Nat.zero_add]; exact h.ocell 0 rfl (by rw [← Array.getElem?_toList]; exact hj)) (by omega) (by omega) (by omega)) ?_
  rintro o ⟨ko, kp⟩
  refine CfgL.pure 2 [] (some [14, 16]) (Γ' := [(16, [], .pointer (some ⟨b, 1, none⟩)), (14, [], .slice (Own.a o) ((l.length + 1)) (Own.c o))]) (nd := (fun _ => [])) (by kernel_rfl) (fun _ => by kernel_rfl) trivial ?_
  refine CfgL.eff (o := _) rfl (by kernel_rfl) (by kernel_rfl) (Eff.store1 (b := b) (off := 1) (v := .slice (Own.a o) ((l.length + 1)) (Own.c o)) rfl (by kernel_rfl) (by kernel_rfl) rfl (by kernel_rfl) 1 (cs := #[.pointer (some ⟨b, 0, none⟩), .slice (Own.a B.2) l.length (Own.c B.2)]) (e := 46) (by kernel_rfl) (Nat.lt_succ_self 1)) ?_
  rintro ⟨⟩ -
  refine CfgL.done rfl ?_
  refine Conv.cfg (Γ' := []) (Conv.mk (by kernel_rfl)) ?_
  refine Cfg.reg rfl [4] [] (Γ' := [(4, [], .nilIface)]) (nd := (fun _ => [])) (fun _ => by kernel_rfl) trivial ?_
  refine Cfg.ret rfl (rs := [.tmp 4]) rfl [.nilIface] ⟨by kernel_rfl, trivial⟩ (fun w1 hp => ?_)
  rw [bv_app] at hp ko
  have hlen : l.length + 1 = (l ++ [c]).length := by rw [List.length_append]; rfl
  rw [hlen] at ko hp
  exact ⟨(.pointer (some ⟨b, 0, none⟩), o), ⟨.inr rfl, ko, kp⟩, rfl, _, bl_end (hp.sub (.cons _ (List.Sublist.refl _)))⟩

set_option maxRecDepth 100000 in
theorem sWords (w : World) :
    Calls Tryd.prog 11 #[] w fun e w' => e = .returned (.agg wordsV) ∧ Ext [] w w' := by
  refine enter (vs := []) [] [] [] Tryd.func11 rfl (by kernel_rfl) (HP.start w) ?_
  refine Cfg.begL rfl ?_
  refine CfgL.eff (o := _) rfl (by kernel_rfl) (by kernel_rfl) (Eff.alloc (z := (.agg #[.string (tx []), .string (tx []), .string (tx []), .string (tx []), .string (tx [])])) rfl (by kernel_rfl)) ?_
  rintro rs ⟨hrs, nrs⟩
  refine CfgL.done rfl ?_
  refine Cfg.begL rfl ?_
  refine CfgL.pure 1 [(0, false, some (.agg wordsV))] none (Γ' := [(1, [], .agg wordsV), (0, [], .pointer (some ⟨rs, 0, none⟩))]) (nd := (fun S => [(∀ w1, S w1 → (Instr.build 37 #[(1, .string ⟨#[118, 101, 114, 116, 101, 120]⟩), (2, .string ⟨#[110, 111, 45, 118, 101, 114, 116, 101, 120]⟩), (3, .string ⟨#[101, 100, 103, 101]⟩), (4, .string ⟨#[110, 111, 45, 101, 100, 103, 101]⟩)]).run Tryd.prog w1 = .ok (.agg wordsV) w1)])) (by kernel_rfl) (fun _ => by kernel_rfl) ⟨(fun _ _ => by kernel_rfl), trivial⟩ ?_
  refine CfgL.eff (o := _) rfl (by kernel_rfl) (by kernel_rfl) (Eff.storeN (b := rs) (off := 0) (vs := wordsV) (n := 5) rfl (by kernel_rfl) (by kernel_rfl) (by kernel_rfl) rfl (by simp [one, wordsV]) 0 (cs := #[.string (tx []), .string (tx []), .string (tx []), .string (tx []), .string (tx [])]) (e := 37) (by kernel_rfl) (by simp)) ?_
  rintro ⟨⟩ -
  refine CfgL.setO (O' := [(rs, .cells wordsV 37 (0, 0))]) (congrArg (fun (xq : Array Value) => ([(rs, .cells xq 37 (0, 0))] : List (Nat × Obj))) (rfl)) ?_
  refine CfgL.done rfl ?_
  refine Conv.cfg (Γ' := [(0, [], .pointer (some ⟨rs, 0, none⟩))]) (Conv.mk (by kernel_rfl)) ?_
  refine Cfg.ret rfl (rs := [.cell 0 37]) rfl [.agg wordsV] ⟨⟨_, by kernel_rfl, (fun w1 h => h.oload 0 rfl Tryd.underlying37 rfl (n := 5) (by kernel_rfl) rfl)⟩, trivial⟩ (fun w1 hp => ?_)
  exact ⟨rfl, hp.ext⟩

end Go.Proofs.YtoopekjbikcebaaDoor
