/- wire: the document's words; rows of texts laid. Conditions: what is laid is no longer than memory bears. -/
import Derived.Test.YtejgpniaoccpoaaWire3
import Derived.Test.YtejgpniaoccpoaaK15
namespace Go.Proofs.Ytejgpniaoccpoaa
open K
set_option linter.unusedVariables false

def nd (n i : Nat) : Nat := n / 256 ^ i
theorem nd_zero (n : Nat) : nd n 0 = n := by simp [nd]
theorem nd_succ (n i : Nat) : nd n i / 256 = nd n (i + 1) := by unfold nd; rw [Nat.pow_succ, Nat.div_div_eq_div_mul]
theorem str1 {P : Program} {w0 w : World} {M : List Nat} {R O : List (Nat × Obj)} (h : HP w0 M R O w) (i : Nat) {b : Nat} {t : TypeId} {x : Int} (ho : O[i]? = some (b, .cells #[.int .u8 x] t (0, 0))) (h0 : 0 ≤ x ∧ x ≤ 255) :
    (Conv.bytesToString (.slice (some ⟨b, 0, none⟩) 1 1)).run P w = .ok (.string (tx [UInt8.ofNat x.toNat])) w := by
  have e1 : (#[.int .u8 x] : Array Value) = bv [UInt8.ofNat x.toNat] := by
    simp only [bv, List.map_cons, List.map_nil]
    rw [show ((UInt8.ofNat x.toNat).toNat : Int) = x by simp; omega]
  rw [e1] at ho
  exact h.ostr i ho rfl
theorem be_step (n i : Nat) : tx [UInt8.ofNat (((nd n i : Int) % 256) % 256).toNat] ++ beS n i = beS n (i + 1) := by
  apply ByteArray.ext
  rw [ByteArray.data_append]
  apply Array.ext'
  rw [show (((nd n i : Int) % 256) % 256).toNat = nd n i % 256 by omega, u8_mod]
  simp [tx, beS, be, nd]
theorem tx_app (a b : List UInt8) : tx a ++ tx b = tx (a ++ b) := by
  apply ByteArray.ext
  rw [ByteArray.data_append]
  apply Array.ext'
  simp [tx]
theorem take_one {l : List UInt8} {i : Nat} (h : i < l.length) : l.take i ++ [l.getD i 0] = l.take (i + 1) := by
  rw [List.take_succ_eq_append_getElem h]; simp [List.getElem?_eq_getElem h]
theorem u8_same (b : UInt8) : UInt8.ofNat ((b.toNat : Int)).toNat = b := by simp
theorem ba_tx (s : ByteArray) : s = tx s.data.toList := (tx_back s).symm
theorem inS_num (bk : Nat) (t : TypeId) (fr : Nat × Nat) (k : IntKind) (n : Nat) : InS [(bk, .cells #[.int k (n : Int)] t fr)] (some ⟨bk, 0, none⟩) [n].length (fun j => .int k (([n].getD j 0 : Nat) : Int)) := by
  intro _
  refine ⟨bk, 0, _, t, fr, rfl, List.mem_singleton.2 rfl, fun j hj => ?_⟩
  obtain rfl : j = 0 := by simpa using hj
  rfl
theorem one_get {n m : Nat} (h : n < m) (hm : 0 < m) (i : Nat) : [n].getD i 0 < m := by
  cases i with
  | zero => exact h
  | succ i => exact hm
theorem flat_one {α : Type} (f : α → List UInt8) (x : α) : flat f [x] = f x := by simp [flat]
theorem text4_len (s : ByteArray) : (text4 s).length = 4 + s.size := by unfold text4; rw [List.length_append, be_len, ba_len]
theorem inS_text (bk : Nat) (t : TypeId) (fr : Nat × Nat) (s : ByteArray) : InS [(bk, .cells #[.string s] t fr)] (some ⟨bk, 0, none⟩) [s].length (fun j => .string ([s].getD j ByteArray.empty)) := by
  intro _
  refine ⟨bk, 0, _, t, fr, rfl, List.mem_singleton.2 rfl, fun j hj => ?_⟩
  obtain rfl : j = 0 := by simpa using hj
  rfl
/-- A row: how many, and each. -/
def rowF (xs : List ByteArray) : List UInt8 := four xs.length ++ flat text4 xs
/-- Things taken one by one, up to an error. -/
def rowsF {β : Type} (tk : IN → β × IN) : Nat → IN → List β → List β × IN
  | 0, z, acc => (acc, z)
  | k + 1, z, acc => if (tk z).2.er ≠ 0 then ([], (tk z).2) else rowsF tk k (tk z).2 (acc ++ [(tk z).1])
theorem row_room {s : ByteArray} {xs : List ByteArray} {m : Nat} (hr : s.size + (rowF xs).length ≤ m) : s.size + (flat four [xs.length]).length ≤ m := by
  have h1 : (rowF xs).length = (four xs.length).length + (flat text4 xs).length := by unfold rowF; rw [List.length_append]
  rw [flat_one]; omega
def tkText (most : Int) (z : IN) : ByteArray × IN := (tx (textF z most).1, (textF z most).2)
def scells (ss : List ByteArray) : List Value := ss.map Value.string
theorem scells_snoc (ss : List ByteArray) (s : ByteArray) : scells ss ++ [Value.string s] = scells (ss ++ [s]) := by simp [scells]
theorem scells_get (ss : List ByteArray) (j : Nat) (h : j < ss.length) : (scells ss)[j]? = some (.string (ss.getD j ByteArray.empty)) := by simp [scells, List.getElem?_eq_getElem h]

set_option maxRecDepth 100000 in
theorem rNum (n k : Nat) (w : World) (hn : n < 18446744073709551616) (hk : k ≤ 8) :
    Calls Try.prog 24 #[.int .u64 (n : Int), .int .i64 (k : Int)] w fun e w' => e = .returned (.string (beS n k)) ∧ Ext [] w w' := by
  refine enter (vs := [.int .u64 (n : Int), .int .i64 (k : Int)]) [] [] [] Try.func24 rfl (by kernel_rfl) (HP.start w) ?_
  refine Cfg.reg rfl [0, 1] [] (Γ' := [(0, [], .int .u64 (n : Int)), (1, [], .int .i64 (k : Int))]) (nd := (fun _ => [])) (fun _ => by kernel_rfl) trivial ?_
  refine Cfg.reg rfl [0, 1, 5] [] (Γ' := [(5, [], .string ⟨#[]⟩), (0, [], .int .u64 (n : Int)), (1, [], .int .i64 (k : Int))]) (nd := (fun _ => [])) (fun _ => by kernel_rfl) trivial ?_
  refine Cfg.reg rfl [0, 1, 5, 6] [] (Γ' := [(6, [], .int .i64 0), (5, [], .string ⟨#[]⟩), (0, [], .int .u64 (n : Int)), (1, [], .int .i64 (k : Int))]) (nd := (fun _ => [])) (fun _ => by kernel_rfl) trivial ?_
  refine Cfg.setG (Γ' := [(6, [], .int .i64 0), (5, [], .string ⟨#[]⟩), (0, [], .int .u64 ((nd n 0) : Int)), (1, [], .int .i64 (k : Int))]) (congrArg (fun (xq : Int) => ([(6, [], .int .i64 0), (5, [], .string ⟨#[]⟩), (0, [], .int .u64 xq), (1, [], .int .i64 (k : Int))] : Env)) (by rw [nd_zero])) ?_
  refine Cfg.loop rfl (ι := Nat) (fun (i : Nat) => [(6, [], .int .i64 (i : Int)), (5, [], .string (beS n i)), (0, [], .int .u64 ((nd n i) : Int)), (1, [], .int .i64 (k : Int))]) (fun (i : Nat) => []) (fun (i : Nat) => (i ≤ k)) (fun (i : Nat) => k - i) 0 ?_ (Conv.mk (by kernel_rfl)) .slnil ?_
  · exact Nat.zero_le _
  · rintro i hi
    refine Cfg.reg rfl [0, 1, 5, 6, 9] [] (Γ' := [(9, [], .bool (decide ((i : Int) < (k : Int)))), (6, [], .int .i64 (i : Int)), (5, [], .string (beS n i)), (0, [], .int .u64 ((nd n i) : Int)), (1, [], .int .i64 (k : Int))]) (nd := (fun _ => [])) (fun _ => by kernel_rfl) trivial ?_
    refine Cfg.cond rfl (b := (decide ((i : Int) < (k : Int)))) (by kernel_rfl) (fun c1r => ?_) (fun c1r => ?_)
    · have c1 : ((i : Int) < (k : Int)) := (of_decide_eq_true c1r)
      refine Cfg.begL rfl ?_
      refine CfgL.pure 3 [] none (Γ' := [(14, [], .int .u8 ((((nd n i) : Int) % 256) % 256)), (13, [], .int .u64 (((nd n i) : Int) % 256)), (12, [], .int .u64 ((nd n i) : Int)), (9, [], .bool (decide ((i : Int) < (k : Int)))), (6, [], .int .i64 (i : Int)), (5, [], .string (beS n i)), (0, [], .int .u64 ((nd n i) : Int)), (1, [], .int .i64 (k : Int))]) (nd := (fun _ => [(0 ≤ ((nd n i) : Int) ∧ 0 < (256 : Int))])) (by kernel_rfl) (fun _ => by kernel_rfl) ⟨(by have : nd n i ≤ n := Nat.div_le_self _ _; omega), trivial⟩ ?_
      refine CfgL.eff (o := _) rfl (by kernel_rfl) (by kernel_rfl) (Eff.buildSlice (e := 5) (cells := #[.int .u8 ((((nd n i) : Int) % 256) % 256)]) (parts := #[(0, .int .u8 ((((nd n i) : Int) % 256) % 256))]) rfl (by kernel_rfl) (fun _ => by kernel_rfl)) ?_
      rintro x1 ⟨hx1, nx1⟩
      refine CfgL.pure 4 [(0, false, some (.string (tx [UInt8.ofNat (((((nd n i) : Int) % 256) % 256)).toNat])))] (some [0, 1, 5, 6]) (Γ' := [(5, [], .string ((tx [UInt8.ofNat (((((nd n i) : Int) % 256) % 256)).toNat]) ++ (beS n i))), (6, [], .int .i64 (i : Int)), (0, [], .int .u64 ((nd n i) : Int)), (1, [], .int .i64 (k : Int))]) (nd := (fun S => [(∀ w1, S w1 → (Conv.bytesToString (.slice (some ⟨x1, 0, none⟩) 1 1)).run Try.prog w1 = .ok (.string (tx [UInt8.ofNat (((((nd n i) : Int) % 256) % 256)).toNat])) w1), ((tx [UInt8.ofNat (((((nd n i) : Int) % 256) % 256)).toNat]).size + (beS n i).size ≤ 9223372036854775807)])) (by kernel_rfl) (fun _ => by kernel_rfl) ⟨(fun w1 h => str1 h 0 rfl (by omega)), (by rw [beS_size, tx_size]; simp only [List.length_cons, List.length_nil]; omega), trivial⟩ ?_
      refine CfgL.done rfl ?_
      refine Cfg.reg rfl [0, 1, 5, 6] [] (Γ' := [(0, [], .int .u64 (((nd n i) : Int) / 256)), (5, [], .string ((tx [UInt8.ofNat (((((nd n i) : Int) % 256) % 256)).toNat]) ++ (beS n i))), (6, [], .int .i64 (i : Int)), (1, [], .int .i64 (k : Int))]) (nd := (fun _ => [(0 ≤ ((nd n i) : Int) ∧ ((nd n i) : Int) ≤ 18446744073709551615 ∧ 0 < (256 : Int))])) (fun _ => by kernel_rfl) ⟨(by have : nd n i ≤ n := Nat.div_le_self _ _; omega), trivial⟩ ?_
      refine Cfg.reg rfl [0, 1, 5, 6] [] (Γ' := [(6, [], .int .i64 ((i : Int) + 1)), (0, [], .int .u64 (((nd n i) : Int) / 256)), (5, [], .string ((tx [UInt8.ofNat (((((nd n i) : Int) % 256) % 256)).toNat]) ++ (beS n i))), (1, [], .int .i64 (k : Int))]) (nd := (fun _ => [((-9223372036854775808 : Int) ≤ ((i : Int) + 1) ∧ ((i : Int) + 1) ≤ 9223372036854775807)])) (fun _ => by kernel_rfl) ⟨(by omega), trivial⟩ ?_
      refine Cfg.setG (Γ' := [(6, [], .int .i64 ((i : Int) + 1)), (0, [], .int .u64 (((nd n i) : Int) / 256)), (5, [], .string (beS n (i + 1))), (1, [], .int .i64 (k : Int))]) (congrArg (fun (xq : ByteArray) => ([(6, [], .int .i64 ((i : Int) + 1)), (0, [], .int .u64 (((nd n i) : Int) / 256)), (5, [], .string xq), (1, [], .int .i64 (k : Int))] : Env)) (be_step n i)) ?_
      refine Cfg.setG (Γ' := [(6, [], .int .i64 ((i : Int) + 1)), (0, [], .int .u64 ((nd n (i + 1)) : Int)), (5, [], .string (beS n (i + 1))), (1, [], .int .i64 (k : Int))]) (congrArg (fun (xq : Int) => ([(6, [], .int .i64 ((i : Int) + 1)), (0, [], .int .u64 xq), (5, [], .string (beS n (i + 1))), (1, [], .int .i64 (k : Int))] : Env)) (by rw [← nd_succ]; rfl)) ?_
      refine Cfg.again rfl (i + 1) (show i + 1 ≤ k by omega) (by omega) (Conv.mk (by kernel_rfl)) (.cons _ .slnil)
    · have c1 : (¬ ((i : Int) < (k : Int))) := (of_decide_eq_false c1r)
      refine Cfg.reg rfl [4] [] (Γ' := [(4, [], .string (beS n i))]) (nd := (fun _ => [])) (fun _ => by kernel_rfl) trivial ?_
      refine Cfg.ret rfl (rs := [.tmp 4]) rfl [.string (beS n i)] ⟨by kernel_rfl, trivial⟩ (fun w1 hp => ?_)
      obtain rfl : i = k := by omega
      exact ⟨rfl, hp.ext⟩

set_option maxRecDepth 100000 in
theorem rText (s : ByteArray) (w : World) (hs : s.size ≤ 9223372036854775000) :
    Calls Try.prog 22 #[.string s] w fun e w' => e = .returned (.string (tx (text4 s))) ∧ Ext [] w w' := by
  refine enter (vs := [.string s]) [] [] [] Try.func22 rfl (by kernel_rfl) (HP.start w) ?_
  refine Cfg.reg rfl [0] [] (Γ' := [(0, [], .string s)]) (nd := (fun _ => [])) (fun _ => by kernel_rfl) trivial ?_
  refine Cfg.begL rfl ?_
  refine CfgL.pure 3 [] none (Γ' := [(5, [], .int .u64 ((s.size : Int) % 18446744073709551616)), (4, [], .int .i64 (s.size : Int)), (3, [], .string s), (0, [], .string s)]) (nd := (fun _ => [])) (by kernel_rfl) (fun _ => by kernel_rfl) trivial ?_
  refine CfgL.eff (o := _) rfl (by kernel_rfl) (by kernel_rfl) (Eff.callA (vs := [.int .u64 ((s.size : Int) % 18446744073709551616), .int .i64 4]) (.string (beS s.size 4)) rfl Try.func24 rfl rfl (by kernel_rfl) (fun w1 _ => by rw [show ((s.size : Int) % 18446744073709551616) = (s.size : Int) by omega]; exact rNum s.size 4 w1 (by omega) (by decide))) ?_
  rintro ⟨⟩ -
  refine CfgL.pure 3 [] (some [2]) (Γ' := [(2, [], .string ((beS s.size 4) ++ s))]) (nd := (fun _ => [((beS s.size 4).size + s.size ≤ 9223372036854775807)])) (by kernel_rfl) (fun _ => by kernel_rfl) ⟨(by rw [beS_size]; omega), trivial⟩ ?_
  refine CfgL.done rfl ?_
  refine Cfg.ret rfl (rs := [.tmp 2]) rfl [.string ((beS s.size 4) ++ s)] ⟨by kernel_rfl, trivial⟩ (fun w1 hp => ?_)
  exact ⟨congrArg (fun x => Ending.returned (.string x)) (show beS s.size 4 ++ s = tx (text4 s) by rw [ba_tx s]; exact (tx_app (be s.size 4) s.data.toList).trans (by rw [tx_back]; rfl)), hp.ext⟩

set_option maxRecDepth 100000 in
theorem rDigest (l : List UInt8) (w : World) (hl : l.length = 32) :
    Calls Try.prog 52 #[.agg (bv l)] w fun e w' => e = .returned (.string (tx l)) ∧ Ext [] w w' := by
  refine enter (vs := [.agg (bv l)]) [] [] [] Try.func52 rfl (by kernel_rfl) (HP.start w) ?_
  refine Cfg.begL rfl ?_
  refine CfgL.eff (o := _) rfl (by kernel_rfl) (by kernel_rfl) (Eff.box (v := .agg (bv l)) rfl (by kernel_rfl)) ?_
  rintro d ⟨hd, nd⟩
  refine CfgL.pure 1 [] (some [1]) (Γ' := [(1, [], .pointer (some ⟨d, 0, none⟩))]) (nd := (fun _ => [])) (by kernel_rfl) (fun _ => by kernel_rfl) trivial ?_
  refine CfgL.done rfl ?_
  refine Cfg.reg rfl [1, 3] [] (Γ' := [(3, [], .string ⟨#[]⟩), (1, [], .pointer (some ⟨d, 0, none⟩))]) (nd := (fun _ => [])) (fun _ => by kernel_rfl) trivial ?_
  refine Cfg.reg rfl [1, 3, 4] [] (Γ' := [(4, [], .int .i64 0), (3, [], .string ⟨#[]⟩), (1, [], .pointer (some ⟨d, 0, none⟩))]) (nd := (fun _ => [])) (fun _ => by kernel_rfl) trivial ?_
  refine Cfg.loop rfl (ι := Nat) (fun (i : Nat) => [(4, [], .int .i64 (i : Int)), (3, [], .string (tx (l.take i))), (1, [], .pointer (some ⟨d, 0, none⟩))]) (fun (i : Nat) => [(d, .cells (bv l) 45 (0, 0))]) (fun (i : Nat) => (i ≤ 32)) (fun (i : Nat) => 32 - i) 0 ?_ (Conv.mk (by kernel_rfl)) (.cons_cons _ .slnil) ?_
  · exact Nat.zero_le _
  · rintro i hi
    refine Cfg.reg rfl [1, 3, 4, 6] [] (Γ' := [(6, [], .bool (decide ((i : Int) < (32 : Int)))), (4, [], .int .i64 (i : Int)), (3, [], .string (tx (l.take i))), (1, [], .pointer (some ⟨d, 0, none⟩))]) (nd := (fun _ => [])) (fun _ => by kernel_rfl) trivial ?_
    refine Cfg.cond rfl (b := (decide ((i : Int) < (32 : Int)))) (by kernel_rfl) (fun c1r => ?_) (fun c1r => ?_)
    · have c1 : ((i : Int) < (32 : Int)) := (of_decide_eq_true c1r)
      refine Cfg.begL rfl ?_
      refine CfgL.pure 4 [(0, false, none), (0, false, none), (0, false, none), (0, false, some (.int .u8 ((l.getD i 0).toNat : Int)))] none (Γ' := [(12, [], .int .u8 ((l.getD i 0).toNat : Int)), (11, [], .pointer (some ⟨d, i, none⟩)), (10, [], .int .i64 (i : Int)), (9, [], .string (tx (l.take i))), (6, [], .bool (decide ((i : Int) < (32 : Int)))), (4, [], .int .i64 (i : Int)), (3, [], .string (tx (l.take i))), (1, [], .pointer (some ⟨d, 0, none⟩))]) (nd := (fun S => [(0 ≤ (i : Int) ∧ (i : Int) < (32 : Int)), (∀ w1, S w1 → w1.cell? ⟨d, i, none⟩ = some (.int .u8 ((l.getD i 0).toNat : Int)))])) (by kernel_rfl) (fun _ => by kernel_rfl) ⟨(by have := byteLt (l.getD i 0); omega), (fun w1 h => h.ocell 0 rfl (bv_get hl (by omega))), trivial⟩ ?_
      refine CfgL.eff (o := _) rfl (by kernel_rfl) (by kernel_rfl) (Eff.buildSlice (e := 5) (cells := #[.int .u8 ((l.getD i 0).toNat : Int)]) (parts := #[(0, .int .u8 ((l.getD i 0).toNat : Int))]) rfl (by kernel_rfl) (fun _ => by kernel_rfl)) ?_
      rintro x ⟨hx, nx⟩
      refine CfgL.pure 3 [(0, false, some (.string (tx [UInt8.ofNat (((l.getD i 0).toNat : Int)).toNat])))] (some [1, 3, 4]) (Γ' := [(3, [], .string ((tx (l.take i)) ++ (tx [UInt8.ofNat (((l.getD i 0).toNat : Int)).toNat]))), (4, [], .int .i64 (i : Int)), (1, [], .pointer (some ⟨d, 0, none⟩))]) (nd := (fun S => [(∀ w1, S w1 → (Conv.bytesToString (.slice (some ⟨x, 0, none⟩) 1 1)).run Try.prog w1 = .ok (.string (tx [UInt8.ofNat (((l.getD i 0).toNat : Int)).toNat])) w1), ((tx (l.take i)).size + (tx [UInt8.ofNat (((l.getD i 0).toNat : Int)).toNat]).size ≤ 9223372036854775807)])) (by kernel_rfl) (fun _ => by kernel_rfl) ⟨(fun w1 h => str1 h 0 rfl (by have := byteLt (l.getD i 0); omega)), (by rw [tx_size, tx_size]; simp only [List.length_cons, List.length_nil, List.length_take]; omega), trivial⟩ ?_
      refine CfgL.done rfl ?_
      refine Cfg.reg rfl [1, 3, 4] [] (Γ' := [(4, [], .int .i64 ((i : Int) + 1)), (3, [], .string ((tx (l.take i)) ++ (tx [UInt8.ofNat (((l.getD i 0).toNat : Int)).toNat]))), (1, [], .pointer (some ⟨d, 0, none⟩))]) (nd := (fun _ => [((-9223372036854775808 : Int) ≤ ((i : Int) + 1) ∧ ((i : Int) + 1) ≤ 9223372036854775807)])) (fun _ => by kernel_rfl) ⟨(by have := byteLt (l.getD i 0); omega), trivial⟩ ?_
      refine Cfg.setG (Γ' := [(4, [], .int .i64 ((i : Int) + 1)), (3, [], .string (tx (l.take (i + 1)))), (1, [], .pointer (some ⟨d, 0, none⟩))]) (congrArg (fun (xq : ByteArray) => ([(4, [], .int .i64 ((i : Int) + 1)), (3, [], .string xq), (1, [], .pointer (some ⟨d, 0, none⟩))] : Env)) (by rw [u8_same, tx_app, take_one (by omega)])) ?_
      refine Cfg.again rfl (i + 1) (show i + 1 ≤ 32 by omega) (by omega) (Conv.mk (by kernel_rfl)) (.cons _ (.cons_cons _ .slnil))
    · have c1 : (¬ ((i : Int) < (32 : Int))) := (of_decide_eq_false c1r)
      refine Cfg.reg rfl [2] [] (Γ' := [(2, [], .string (tx (l.take i)))]) (nd := (fun _ => [])) (fun _ => by kernel_rfl) trivial ?_
      refine Cfg.ret rfl (rs := [.tmp 2]) rfl [.string (tx (l.take i))] ⟨by kernel_rfl, trivial⟩ (fun w1 hp => ?_)
      exact ⟨by rw [show l.take i = l from List.take_of_length_le (by omega)]; rfl, hp.ext⟩

end Go.Proofs.Ytejgpniaoccpoaa
