/- wire: the document's words; rows of texts laid. Conditions: what is laid is no longer than memory bears. -/
import Derived.Test.YtmkefcjphdaoiaaWire3
import Derived.Test.YtmkefcjphdaoiaaK15
namespace Go.Proofs.Ytmkefcjphdaoiaa
open K
set_option linter.unusedVariables false

def nd (n i : Nat) : Nat := n / 256 ^ i
theorem nd_zero (n : Nat) : nd n 0 = n := by simp [nd]
theorem nd_succ (n i : Nat) : nd n i / 256 = nd n (i + 1) := by unfold nd; rw [Nat.pow_succ, Nat.div_div_eq_div_mul]
theorem str1 {P : Program} {w0 w : World} {M : List Nat} {R O : List (Nat × Obj)} (h : HP w0 M R O w) (i : Nat) {b : Nat} {t : TypeId} {x : Int} (ho : O[i]? = some (b, .cells #[.int .u8 x] t (0, 0))) (h0 : 0 ≤ x ∧ x ≤ 255) :
    (Conv.bytesToString (.slice (some ⟨b, 0, none⟩) 1 1)).run P w = .ok (.string (tx [UInt8.ofNat x.toNat])) w := by
  have e1 : (#[.int .u8 x] : Array Value) = bv [UInt8.ofNat x.toNat] := by
    simp only [bv, List.map_cons, List.map_nil]
    rw [show ((UInt8.ofNat x.toNat).toNat : Int) = x by simp; omega]
  rw [e1] at ho
  exact h.ostr i ho rfl
theorem be_step (n i : Nat) : tx [UInt8.ofNat (((nd n i : Int) % 256) % 256).toNat] ++ beS n i = beS n (i + 1) := by
  apply ByteArray.ext
  rw [ByteArray.data_append]
  apply Array.ext'
  rw [show (((nd n i : Int) % 256) % 256).toNat = nd n i % 256 by omega, u8_mod]
  simp [tx, beS, be, nd]
theorem tx_app (a b : List UInt8) : tx a ++ tx b = tx (a ++ b) := by
  apply ByteArray.ext
  rw [ByteArray.data_append]
  apply Array.ext'
  simp [tx]
theorem take_one {l : List UInt8} {i : Nat} (h : i < l.length) : l.take i ++ [l.getD i 0] = l.take (i + 1) := by
  rw [List.take_succ_eq_append_getElem h]; simp [List.getElem?_eq_getElem h]
theorem u8_same (b : UInt8) : UInt8.ofNat ((b.toNat : Int)).toNat = b := by simp
theorem ba_tx (s : ByteArray) : s = tx s.data.toList := (tx_back s).symm
theorem inS_num (bk : Nat) (t : TypeId) (fr : Nat × Nat) (k : IntKind) (n : Nat) : InS [(bk, .cells #[.int k (n : Int)] t fr)] (some ⟨bk, 0, none⟩) [n].length (fun j => .int k (([n].getD j 0 : Nat) : Int)) := by
  intro _
  refine ⟨bk, 0, _, t, fr, rfl, List.mem_singleton.2 rfl, fun j hj => ?_⟩
  obtain rfl : j = 0 := by simpa using hj
  rfl
theorem one_get {n m : Nat} (h : n < m) (hm : 0 < m) (i : Nat) : [n].getD i 0 < m := by
  cases i with
  | zero => exact h
  | succ i => exact hm
theorem flat_one {α : Type} (f : α → List UInt8) (x : α) : flat f [x] = f x := by simp [flat]
theorem text4_len (s : ByteArray) : (text4 s).length = 4 + s.size := by unfold text4; rw [List.length_append, be_len, ba_len]
theorem inS_text (bk : Nat) (t : TypeId) (fr : Nat × Nat) (s : ByteArray) : InS [(bk, .cells #[.string s] t fr)] (some ⟨bk, 0, none⟩) [s].length (fun j => .string ([s].getD j ByteArray.empty)) := by
  intro _
  refine ⟨bk, 0, _, t, fr, rfl, List.mem_singleton.2 rfl, fun j hj => ?_⟩
  obtain rfl : j = 0 := by simpa using hj
  rfl
/-- A row: how many, and each. -/
def rowF (xs : List ByteArray) : List UInt8 := four xs.length ++ flat text4 xs
/-- Things taken one by one, up to an error. -/
def rowsF {β : Type} (tk : IN → β × IN) : Nat → IN → List β → List β × IN
  | 0, z, acc => (acc, z)
  | k + 1, z, acc => if (tk z).2.er ≠ 0 then ([], (tk z).2) else rowsF tk k (tk z).2 (acc ++ [(tk z).1])
theorem row_room {s : ByteArray} {xs : List ByteArray} {m : Nat} (hr : s.size + (rowF xs).length ≤ m) : s.size + (flat four [xs.length]).length ≤ m := by
  have h1 : (rowF xs).length = (four xs.length).length + (flat text4 xs).length := by unfold rowF; rw [List.length_append]
  rw [flat_one]; omega
def tkText (most : Int) (z : IN) : ByteArray × IN := (tx (textF z most).1, (textF z most).2)
def scells (ss : List ByteArray) : List Value := ss.map Value.string
theorem scells_snoc (ss : List ByteArray) (s : ByteArray) : scells ss ++ [Value.string s] = scells (ss ++ [s]) := by simp [scells]
theorem scells_get (ss : List ByteArray) (j : Nat) (h : j < ss.length) : (scells ss)[j]? = some (.string (ss.getD j ByteArray.empty)) := by simp [scells, List.getElem?_eq_getElem h]

set_option maxRecDepth 100000 in
theorem rNum (n k : Nat) (w : World) (hn : n < 18446744073709551616) (hk : k ≤ 8) :
    Calls Try.prog 31 #[.int .u64 (n : Int), .int .i64 (k : Int)] w fun e w' => e = .returned (.string (beS n k)) ∧ Ext [] w w' := by
  refine enter (vs := [.int .u64 (n : Int), .int .i64 (k : Int)]) [] [] [] Try.func31 rfl (by kernel_rfl) (HP.start w) ?_
  refine Cfg.reg rfl [0, 1] [] (Γ' := [(0, [], .int .u64 (n : Int)), (1, [], .int .i64 (k : Int))]) (nd := (fun _ => [])) (fun _ => by kernel_rfl) trivial ?_
  refine Cfg.reg rfl [0, 1, 5] [] (Γ' := [(5, [], .string ⟨#[]⟩), (0, [], .int .u64 (n : Int)), (1, [], .int .i64 (k : Int))]) (nd := (fun _ => [])) (fun _ => by kernel_rfl) trivial ?_
  refine Cfg.reg rfl [0, 1, 5, 6] [] (Γ' := [(6, [], .int .i64 0), (5, [], .string ⟨#[]⟩), (0, [], .int .u64 (n : Int)), (1, [], .int .i64 (k : Int))]) (nd := (fun _ => [])) (fun _ => by kernel_rfl) trivial ?_
  refine Cfg.setG (Γ' := [(6, [], .int .i64 0), (5, [], .string ⟨#[]⟩), (0, [], .int .u64 ((nd n 0) : Int)), (1, [], .int .i64 (k : Int))]) (congrArg (fun (xq : Int) => ([(6, [], .int .i64 0), (5, [], .string ⟨#[]⟩), (0, [], .int .u64 xq), (1, [], .int .i64 (k : Int))] : Env)) (by rw [nd_zero])) ?_
  refine Cfg.loop rfl (ι := Nat) (fun (i : Nat) => [(6, [], .int .i64 (i : Int)), (5, [], .string (beS n i)), (0, [], .int .u64 ((nd n i) : Int)), (1, [], .int .i64 (k : Int))]) (fun (i : Nat) => []) (fun (i : Nat) => (i ≤ k)) (fun (i : Nat) => k - i) 0 ?_ (Conv.mk (by kernel_rfl)) .slnil ?_
  · exact Nat.zero_le _
  · rintro i hi
    refine Cfg.reg rfl [0, 1, 5, 6, 9] [] (Γ' := [(9, [], .bool (decide ((i : Int) < (k : Int)))), (6, [], .int .i64 (i : Int)), (5, [], .string (beS n i)), (0, [], .int .u64 ((nd n i) : Int)), (1, [], .int .i64 (k : Int))]) (nd := (fun _ => [])) (fun _ => by kernel_rfl) trivial ?_
    refine Cfg.cond rfl (b := (decide ((i : Int) < (k : Int)))) (by kernel_rfl) (fun c1r => ?_) (fun c1r => ?_)
    · have c1 : ((i : Int) < (k : Int)) := (of_decide_eq_true c1r)
      refine Cfg.begL rfl ?_
      refine CfgL.pure 3 [] none (Γ' := [(14, [], .int .u8 ((((nd n i) : Int) % 256) % 256)), (13, [], .int .u64 (((nd n i) : Int) % 256)), (12, [], .int .u64 ((nd n i) : Int)), (9, [], .bool (decide ((i : Int) < (k : Int)))), (6, [], .int .i64 (i : Int)), (5, [], .string (beS n i)), (0, [], .int .u64 ((nd n i) : Int)), (1, [], .int .i64 (k : Int))]) (nd := (fun _ => [(0 ≤ ((nd n i) : Int) ∧ 0 < (256 : Int))])) (by kernel_rfl) (fun _ => by kernel_rfl) ⟨(by have : nd n i ≤ n := Nat.div_le_self _ _; omega), trivial⟩ ?_
      refine CfgL.eff (o := _) rfl (by kernel_rfl) (by kernel_rfl) (Eff.buildSlice (e := 5) (cells := #[.int .u8 ((((nd n i) : Int) % 256) % 256)]) (parts := #[(0, .int .u8 ((((nd n i) : Int) % 256) % 256))]) rfl (by kernel_rfl) (fun _ => by kernel_rfl)) ?_
      rintro x1 ⟨hx1, nx1⟩
      refine CfgL.pure 4 [(0, false, some (.string (tx [UInt8.ofNat (((((nd n i) : Int) % 256) % 256)).toNat])))] (some [0, 1, 5, 6]) (Γ' := [(5, [], .string ((tx [UInt8.ofNat (((((nd n i) : Int) % 256) % 256)).toNat]) ++ (beS n i))), (6, [], .int .i64 (i : Int)), (0, [], .int .u64 ((nd n i) : Int)), (1, [], .int .i64 (k : Int))]) (nd := (fun S => [(∀ w1, S w1 → (Conv.bytesToString (.slice (some ⟨x1, 0, none⟩) 1 1)).run Try.prog w1 = .ok (.string (tx [UInt8.ofNat (((((nd n i) : Int) % 256) % 256)).toNat])) w1), ((tx [UInt8.ofNat (((((nd n i) : Int) % 256) % 256)).toNat]).size + (beS n i).size ≤ 9223372036854775807)])) (by kernel_rfl) (fun _ => by kernel_rfl) ⟨(fun w1 h => str1 h 0 rfl (by omega)), (by rw [beS_size, tx_size]; simp only [List.length_cons, List.length_nil]; omega), trivial⟩ ?_
      refine CfgL.done rfl ?_
      refine Cfg.reg rfl [0, 1, 5, 6] [] (Γ' := [(0, [], .int .u64 (((nd n i) : Int) / 256)), (5, [], .string ((tx [UInt8.ofNat (((((nd n i) : Int) % 256) % 256)).toNat]) ++ (beS n i))), (6, [], .int .i64 (i : Int)), (1, [], .int .i64 (k : Int))]) (nd := (fun _ => [(0 ≤ ((nd n i) : Int) ∧ ((nd n i) : Int) ≤ 18446744073709551615 ∧ 0 < (256 : Int))])) (fun _ => by kernel_rfl) ⟨(by have : nd n i ≤ n := Nat.div_le_self _ _; omega), trivial⟩ ?_
      refine Cfg.reg rfl [0, 1, 5, 6] [] (Γ' := [(6, [], .int .i64 ((i : Int) + 1)), (0, [], .int .u64 (((nd n i) : Int) / 256)), (5, [], .string ((tx [UInt8.ofNat (((((nd n i) : Int) % 256) % 256)).toNat]) ++ (beS n i))), (1, [], .int .i64 (k : Int))]) (nd := (fun _ => [((-9223372036854775808 : Int) ≤ ((i : Int) + 1) ∧ ((i : Int) + 1) ≤ 9223372036854775807)])) (fun _ => by kernel_rfl) ⟨(by omega), trivial⟩ ?_
      refine Cfg.setG (Γ' := [(6, [], .int .i64 ((i : Int) + 1)), (0, [], .int .u64 (((nd n i) : Int) / 256)), (5, [], .string (beS n (i + 1))), (1, [], .int .i64 (k : Int))]) (congrArg (fun (xq : ByteArray) => ([(6, [], .int .i64 ((i : Int) + 1)), (0, [], .int .u64 (((nd n i) : Int) / 256)), (5, [], .string xq), (1, [], .int .i64 (k : Int))] : Env)) (be_step n i)) ?_
      refine Cfg.setG (Γ' := [(6, [], .int .i64 ((i : Int) + 1)), (0, [], .int .u64 ((nd n (i + 1)) : Int)), (5, [], .string (beS n (i + 1))), (1, [], .int .i64 (k : Int))]) (congrArg (fun (xq : Int) => ([(6, [], .int .i64 ((i : Int) + 1)), (0, [], .int .u64 xq), (5, [], .string (beS n (i + 1))), (1, [], .int .i64 (k : Int))] : Env)) (by rw [← nd_succ]; rfl)) ?_
      refine Cfg.again rfl (i + 1) (show i + 1 ≤ k by omega) (by omega) (Conv.mk (by kernel_rfl)) (.cons _ .slnil)
    · have c1 : (¬ ((i : Int) < (k : Int))) := (of_decide_eq_false c1r)
      refine Cfg.reg rfl [4] [] (Γ' := [(4, [], .string (beS n i))]) (nd := (fun _ => [])) (fun _ => by kernel_rfl) trivial ?_
      refine Cfg.ret rfl (rs := [.tmp 4]) rfl [.string (beS n i)] ⟨by kernel_rfl, trivial⟩ (fun w1 hp => ?_)
      obtain rfl : i = k := by omega
      exact ⟨rfl, hp.ext⟩

set_option maxRecDepth 100000 in
theorem rText (s : ByteArray) (w : World) (hs : s.size ≤ 9223372036854775000) :
    Calls Try.prog 32 #[.string s] w fun e w' => e = .returned (.string (tx (text4 s))) ∧ Ext [] w w' := by
  refine enter (vs := [.string s]) [] [] [] Try.func32 rfl (by kernel_rfl) (HP.start w) ?_
  refine Cfg.reg rfl [0] [] (Γ' := [(0, [], .string s)]) (nd := (fun _ => [])) (fun _ => by kernel_rfl) trivial ?_
  refine Cfg.begL rfl ?_
  refine CfgL.pure 3 [] none (Γ' := [(5, [], .int .u64 ((s.size : Int) % 18446744073709551616)), (4, [], .int .i64 (s.size : Int)), (3, [], .string s), (0, [], .string s)]) (nd := (fun _ => [])) (by kernel_rfl) (fun _ => by kernel_rfl) trivial ?_
  refine CfgL.eff (o := _) rfl (by kernel_rfl) (by kernel_rfl) (Eff.callA (vs := [.int .u64 ((s.size : Int) % 18446744073709551616), .int .i64 4]) (.string (beS s.size 4)) rfl Try.func31 rfl rfl (by kernel_rfl) (fun w1 _ => by rw [show ((s.size : Int) % 18446744073709551616) = (s.size : Int) by omega]; exact rNum s.size 4 w1 (by omega) (by decide))) ?_
  rintro ⟨⟩ -
  refine CfgL.pure 3 [] (some [2]) (Γ' := [(2, [], .string ((beS s.size 4) ++ s))]) (nd := (fun _ => [((beS s.size 4).size + s.size ≤ 9223372036854775807)])) (by kernel_rfl) (fun _ => by kernel_rfl) ⟨(by rw [beS_size]; omega), trivial⟩ ?_
  refine CfgL.done rfl ?_
  refine Cfg.ret rfl (rs := [.tmp 2]) rfl [.string ((beS s.size 4) ++ s)] ⟨by kernel_rfl, trivial⟩ (fun w1 hp => ?_)
  exact ⟨congrArg (fun x => Ending.returned (.string x)) (show beS s.size 4 ++ s = tx (text4 s) by rw [ba_tx s]; exact (tx_app (be s.size 4) s.data.toList).trans (by rw [tx_back]; rfl)), hp.ext⟩

set_option maxRecDepth 100000 in
theorem rDigest (l : List UInt8) (w : World) (hl : l.length = 32) :
    Calls Try.prog 33 #[.agg (bv l)] w fun e w' => e = .returned (.string (tx l)) ∧ Ext [] w w' := by
  refine enter (vs := [.agg (bv l)]) [] [] [] Try.func33 rfl (by kernel_rfl) (HP.start w) ?_
  refine Cfg.begL rfl ?_
  refine CfgL.eff (o := _) rfl (by kernel_rfl) (by kernel_rfl) (Eff.box (v := .agg (bv l)) rfl (by kernel_rfl)) ?_
  rintro d ⟨hd, nd⟩
  refine CfgL.pure 1 [] (some [1]) (Γ' := [(1, [], .pointer (some ⟨d, 0, none⟩))]) (nd := (fun _ => [])) (by kernel_rfl) (fun _ => by kernel_rfl) trivial ?_
  refine CfgL.done rfl ?_
  refine Cfg.reg rfl [1, 3] [] (Γ' := [(3, [], .string ⟨#[]⟩), (1, [], .pointer (some ⟨d, 0, none⟩))]) (nd := (fun _ => [])) (fun _ => by kernel_rfl) trivial ?_
  refine Cfg.reg rfl [1, 3, 4] [] (Γ' := [(4, [], .int .i64 0), (3, [], .string ⟨#[]⟩), (1, [], .pointer (some ⟨d, 0, none⟩))]) (nd := (fun _ => [])) (fun _ => by kernel_rfl) trivial ?_
  refine Cfg.loop rfl (ι := Nat) (fun (i : Nat) => [(4, [], .int .i64 (i : Int)), (3, [], .string (tx (l.take i))), (1, [], .pointer (some ⟨d, 0, none⟩))]) (fun (i : Nat) => [(d, .cells (bv l) 52 (0, 0))]) (fun (i : Nat) => (i ≤ 32)) (fun (i : Nat) => 32 - i) 0 ?_ (Conv.mk (by kernel_rfl)) (.cons_cons _ .slnil) ?_
  · exact Nat.zero_le _
  · rintro i hi
    refine Cfg.reg rfl [1, 3, 4, 6] [] (Γ' := [(6, [], .bool (decide ((i : Int) < (32 : Int)))), (4, [], .int .i64 (i : Int)), (3, [], .string (tx (l.take i))), (1, [], .pointer (some ⟨d, 0, none⟩))]) (nd := (fun _ => [])) (fun _ => by kernel_rfl) trivial ?_
    refine Cfg.cond rfl (b := (decide ((i : Int) < (32 : Int)))) (by kernel_rfl) (fun c1r => ?_) (fun c1r => ?_)
    · have c1 : ((i : Int) < (32 : Int)) := (of_decide_eq_true c1r)
      refine Cfg.begL rfl ?_
      refine CfgL.pure 4 [(0, false, none), (0, false, none), (0, false, none), (0, false, some (.int .u8 ((l.getD i 0).toNat : Int)))] none (Γ' := [(12, [], .int .u8 ((l.getD i 0).toNat : Int)), (11, [], .pointer (some ⟨d, i, none⟩)), (10, [], .int .i64 (i : Int)), (9, [], .string (tx (l.take i))), (6, [], .bool (decide ((i : Int) < (32 : Int)))), (4, [], .int .i64 (i : Int)), (3, [], .string (tx (l.take i))), (1, [], .pointer (some ⟨d, 0, none⟩))]) (nd := (fun S => [(0 ≤ (i : Int) ∧ (i : Int) < (32 : Int)), (∀ w1, S w1 → w1.cell? ⟨d, i, none⟩ = some (.int .u8 ((l.getD i 0).toNat : Int)))])) (by kernel_rfl) (fun _ => by kernel_rfl) ⟨(by have := byteLt (l.getD i 0); omega), (fun w1 h => h.ocell 0 rfl (bv_get hl (by omega))), trivial⟩ ?_
      refine CfgL.eff (o := _) rfl (by kernel_rfl) (by kernel_rfl) (Eff.buildSlice (e := 5) (cells := #[.int .u8 ((l.getD i 0).toNat : Int)]) (parts := #[(0, .int .u8 ((l.getD i 0).toNat : Int))]) rfl (by kernel_rfl) (fun _ => by kernel_rfl)) ?_
      rintro x ⟨hx, nx⟩
      refine CfgL.pure 3 [(0, false, some (.string (tx [UInt8.ofNat (((l.getD i 0).toNat : Int)).toNat])))] (some [1, 3, 4]) (Γ' := [(3, [], .string ((tx (l.take i)) ++ (tx [UInt8.ofNat (((l.getD i 0).toNat : Int)).toNat]))), (4, [], .int .i64 (i : Int)), (1, [], .pointer (some ⟨d, 0, none⟩))]) (nd := (fun S => [(∀ w1, S w1 → (Conv.bytesToString (.slice (some ⟨x, 0, none⟩) 1 1)).run Try.prog w1 = .ok (.string (tx [UInt8.ofNat (((l.getD i 0).toNat : Int)).toNat])) w1), ((tx (l.take i)).size + (tx [UInt8.ofNat (((l.getD i 0).toNat : Int)).toNat]).size ≤ 9223372036854775807)])) (by kernel_rfl) (fun _ => by kernel_rfl) ⟨(fun w1 h => str1 h 0 rfl (by have := byteLt (l.getD i 0); omega)), (by rw [tx_size, tx_size]; simp only [List.length_cons, List.length_nil, List.length_take]; omega), trivial⟩ ?_
      refine CfgL.done rfl ?_
      refine Cfg.reg rfl [1, 3, 4] [] (Γ' := [(4, [], .int .i64 ((i : Int) + 1)), (3, [], .string ((tx (l.take i)) ++ (tx [UInt8.ofNat (((l.getD i 0).toNat : Int)).toNat]))), (1, [], .pointer (some ⟨d, 0, none⟩))]) (nd := (fun _ => [((-9223372036854775808 : Int) ≤ ((i : Int) + 1) ∧ ((i : Int) + 1) ≤ 9223372036854775807)])) (fun _ => by kernel_rfl) ⟨(by have := byteLt (l.getD i 0); omega), trivial⟩ ?_
      refine Cfg.setG (Γ' := [(4, [], .int .i64 ((i : Int) + 1)), (3, [], .string (tx (l.take (i + 1)))), (1, [], .pointer (some ⟨d, 0, none⟩))]) (congrArg (fun (xq : ByteArray) => ([(4, [], .int .i64 ((i : Int) + 1)), (3, [], .string xq), (1, [], .pointer (some ⟨d, 0, none⟩))] : Env)) (by rw [u8_same, tx_app, take_one (by omega)])) ?_
      refine Cfg.again rfl (i + 1) (show i + 1 ≤ 32 by omega) (by omega) (Conv.mk (by kernel_rfl)) (.cons _ (.cons_cons _ .slnil))
    · have c1 : (¬ ((i : Int) < (32 : Int))) := (of_decide_eq_false c1r)
      refine Cfg.reg rfl [2] [] (Γ' := [(2, [], .string (tx (l.take i)))]) (nd := (fun _ => [])) (fun _ => by kernel_rfl) trivial ?_
      refine Cfg.ret rfl (rs := [.tmp 2]) rfl [.string (tx (l.take i))] ⟨by kernel_rfl, trivial⟩ (fun w1 hp => ?_)
      exact ⟨by rw [show l.take i = l from List.take_of_length_le (by omega)]; rfl, hp.ext⟩

set_option maxRecDepth 100000 in
theorem layA (s x : ByteArray) (w : World) (hr : s.size + (4 + x.size) ≤ 140737488355328) :
    Calls Try.prog 42 #[.agg #[.string s], .string x] w fun e w' => e = .returned (.agg #[.string (tx (s.data.toList ++ text4 x))]) ∧ Ext [] w w' := by
  refine enter (vs := [.agg #[.string s], .string x]) [] [] [] Try.func42 rfl (by kernel_rfl) (HP.start w) ?_
  refine Cfg.begL rfl ?_
  refine CfgL.eff (o := _) rfl (by kernel_rfl) (by kernel_rfl) (Eff.box (v := .agg #[.string s]) rfl (by kernel_rfl)) ?_
  rintro o ⟨ho, no⟩
  refine CfgL.eff (o := _) rfl (by kernel_rfl) (by kernel_rfl) (Eff.alloc (z := (.agg #[.string ByteArray.empty])) rfl (by kernel_rfl)) ?_
  rintro rs ⟨hrs, nrs⟩
  refine CfgL.done rfl ?_
  refine Conv.cfg (Γ' := [(4, [], .pointer (some ⟨rs, 0, none⟩)), (2, [], .pointer (some ⟨o, 0, none⟩)), (1, [], .string x)]) (Conv.mk (by kernel_rfl)) ?_
  refine Cfg.begL rfl ?_
  refine CfgL.pure 2 [(0, false, some (.agg #[.string s]))] none (Γ' := [(6, [], .string x), (5, [], .agg #[.string s]), (4, [], .pointer (some ⟨rs, 0, none⟩)), (2, [], .pointer (some ⟨o, 0, none⟩)), (1, [], .string x)]) (nd := (fun S => [(∀ w1, S w1 → (loadVar 64 ⟨o, 0, none⟩).run Try.prog w1 = .ok (.agg #[.string s]) w1)])) (by kernel_rfl) (fun _ => by kernel_rfl) ⟨(fun w1 h => h.oload 1 rfl Try.underlying64 rfl (n := 1) (by kernel_rfl) rfl), trivial⟩ ?_
  refine CfgL.eff (o := _) rfl (by kernel_rfl) (by kernel_rfl) (Eff.buildSlice (e := 9) (cells := #[.string x]) (parts := #[(0, .string x)]) rfl (by kernel_rfl) (fun _ => by kernel_rfl)) ?_
  rintro x3 ⟨hx3, nx3⟩
  refine CfgL.eff (o := _) rfl (by kernel_rfl) (by kernel_rfl) (Eff.callA (vs := [.agg #[.string s], .slice (some ⟨x3, 0, none⟩) 1 1]) (.agg #[.string (tx (s.data.toList ++ flat text4 [x]))]) rfl Try.func37 rfl rfl (by kernel_rfl) (fun w1 h => wText s (some ⟨x3, 0, none⟩) 1 [x] [(x3, .cells #[.string x] 9 (0, 0))] w1 (inS_text x3 9 (0, 0) x) (h.has (fun e he => List.mem_of_getElem? (i := 0) (by rw [List.mem_singleton.1 he]; rfl))) (one_len _) (by rw [flat_one, text4_len]; exact hr))) ?_
  rintro ⟨⟩ -
  refine CfgL.eff (o := _) rfl (by kernel_rfl) (by kernel_rfl) (Eff.storeN (b := rs) (off := 0) (vs := #[.string (tx (s.data.toList ++ flat text4 [x]))]) (n := 1) rfl (by kernel_rfl) (by kernel_rfl) (by kernel_rfl) rfl (by simp [one]) 1 (cs := #[.string ByteArray.empty]) (e := 64) (by kernel_rfl) (by simp)) ?_
  rintro ⟨⟩ -
  refine CfgL.setO (O' := [(x3, .cells #[.string x] 9 (0, 0)), (rs, .cells #[.string (tx (s.data.toList ++ flat text4 [x]))] 64 (0, 0)), (o, .cells #[.string s] 64 (0, 0))]) (congrArg (fun (xq : Array Value) => ([(x3, .cells #[.string x] 9 (0, 0)), (rs, .cells xq 64 (0, 0)), (o, .cells #[.string s] 64 (0, 0))] : List (Nat × Obj))) (rfl)) ?_
  refine CfgL.done rfl ?_
  refine Conv.cfg (Γ' := [(4, [], .pointer (some ⟨rs, 0, none⟩))]) (Conv.mk (by kernel_rfl)) ?_
  refine Cfg.ret rfl (rs := [.cell 4 64]) rfl [.agg #[.string (tx (s.data.toList ++ flat text4 [x]))]] ⟨⟨_, by kernel_rfl, (fun w1 h => h.oload 1 rfl Try.underlying64 rfl (n := 1) (by kernel_rfl) rfl)⟩, trivial⟩ (fun w1 hp => ?_)
  exact ⟨by rw [flat_one]; rfl, hp.ext⟩

set_option maxRecDepth 100000 in
theorem layB (s x : ByteArray) (w : World) (hr : s.size + (4 + x.size) ≤ 140737488355328) :
    Calls Try.prog 43 #[.agg #[.string s], .string x] w fun e w' => e = .returned (.agg #[.string (tx (s.data.toList ++ text4 x))]) ∧ Ext [] w w' := by
  refine enter (vs := [.agg #[.string s], .string x]) [] [] [] Try.func43 rfl (by kernel_rfl) (HP.start w) ?_
  refine Cfg.begL rfl ?_
  refine CfgL.eff (o := _) rfl (by kernel_rfl) (by kernel_rfl) (Eff.box (v := .agg #[.string s]) rfl (by kernel_rfl)) ?_
  rintro o ⟨ho, no⟩
  refine CfgL.eff (o := _) rfl (by kernel_rfl) (by kernel_rfl) (Eff.alloc (z := (.agg #[.string ByteArray.empty])) rfl (by kernel_rfl)) ?_
  rintro rs ⟨hrs, nrs⟩
  refine CfgL.done rfl ?_
  refine Conv.cfg (Γ' := [(4, [], .pointer (some ⟨rs, 0, none⟩)), (2, [], .pointer (some ⟨o, 0, none⟩)), (1, [], .string x)]) (Conv.mk (by kernel_rfl)) ?_
  refine Cfg.begL rfl ?_
  refine CfgL.pure 2 [(0, false, some (.agg #[.string s]))] none (Γ' := [(6, [], .string x), (5, [], .agg #[.string s]), (4, [], .pointer (some ⟨rs, 0, none⟩)), (2, [], .pointer (some ⟨o, 0, none⟩)), (1, [], .string x)]) (nd := (fun S => [(∀ w1, S w1 → (loadVar 64 ⟨o, 0, none⟩).run Try.prog w1 = .ok (.agg #[.string s]) w1)])) (by kernel_rfl) (fun _ => by kernel_rfl) ⟨(fun w1 h => h.oload 1 rfl Try.underlying64 rfl (n := 1) (by kernel_rfl) rfl), trivial⟩ ?_
  refine CfgL.eff (o := _) rfl (by kernel_rfl) (by kernel_rfl) (Eff.buildSlice (e := 9) (cells := #[.string x]) (parts := #[(0, .string x)]) rfl (by kernel_rfl) (fun _ => by kernel_rfl)) ?_
  rintro x3 ⟨hx3, nx3⟩
  refine CfgL.eff (o := _) rfl (by kernel_rfl) (by kernel_rfl) (Eff.callA (vs := [.agg #[.string s], .slice (some ⟨x3, 0, none⟩) 1 1]) (.agg #[.string (tx (s.data.toList ++ flat text4 [x]))]) rfl Try.func37 rfl rfl (by kernel_rfl) (fun w1 h => wText s (some ⟨x3, 0, none⟩) 1 [x] [(x3, .cells #[.string x] 9 (0, 0))] w1 (inS_text x3 9 (0, 0) x) (h.has (fun e he => List.mem_of_getElem? (i := 0) (by rw [List.mem_singleton.1 he]; rfl))) (one_len _) (by rw [flat_one, text4_len]; exact hr))) ?_
  rintro ⟨⟩ -
  refine CfgL.eff (o := _) rfl (by kernel_rfl) (by kernel_rfl) (Eff.storeN (b := rs) (off := 0) (vs := #[.string (tx (s.data.toList ++ flat text4 [x]))]) (n := 1) rfl (by kernel_rfl) (by kernel_rfl) (by kernel_rfl) rfl (by simp [one]) 1 (cs := #[.string ByteArray.empty]) (e := 64) (by kernel_rfl) (by simp)) ?_
  rintro ⟨⟩ -
  refine CfgL.setO (O' := [(x3, .cells #[.string x] 9 (0, 0)), (rs, .cells #[.string (tx (s.data.toList ++ flat text4 [x]))] 64 (0, 0)), (o, .cells #[.string s] 64 (0, 0))]) (congrArg (fun (xq : Array Value) => ([(x3, .cells #[.string x] 9 (0, 0)), (rs, .cells xq 64 (0, 0)), (o, .cells #[.string s] 64 (0, 0))] : List (Nat × Obj))) (rfl)) ?_
  refine CfgL.done rfl ?_
  refine Conv.cfg (Γ' := [(4, [], .pointer (some ⟨rs, 0, none⟩))]) (Conv.mk (by kernel_rfl)) ?_
  refine Cfg.ret rfl (rs := [.cell 4 64]) rfl [.agg #[.string (tx (s.data.toList ++ flat text4 [x]))]] ⟨⟨_, by kernel_rfl, (fun w1 h => h.oload 1 rfl Try.underlying64 rfl (n := 1) (by kernel_rfl) rfl)⟩, trivial⟩ (fun w1 hp => ?_)
  exact ⟨by rw [flat_one]; rfl, hp.ext⟩

set_option maxRecDepth 100000 in
theorem wRowA (s : ByteArray) (la : Option Addr) (cap : Nat) (xs : List ByteArray) (Rl : List (Nat × Obj)) (w : World) (hI : InS Rl la xs.length (fun j => .string (xs.getD j ByteArray.empty))) (hR : Has w Rl) (hn : xs.length ≤ maxLen) (h32 : xs.length < 4294967296) (hr : s.size + (rowF xs).length ≤ 140737488355328) :
    Calls Try.prog 41 #[.agg #[.string s], .slice la xs.length cap, .func (.func 42) #[] #[]] w fun e w' => e = .returned (.agg #[.string (tx (s.data.toList ++ rowF xs))]) ∧ Ext [] w w' := by
  unfold maxLen at hn
  have hts := tx_size
  refine enter (vs := [.agg #[.string s], .slice la xs.length cap, .func (.func 42) #[] #[]]) [] Rl [] Try.func41 rfl (by kernel_rfl) (HP.ofHas hR) ?_
  refine Cfg.begL rfl ?_
  refine CfgL.eff (o := _) rfl (by kernel_rfl) (by kernel_rfl) (Eff.box (v := .agg #[.string s]) rfl (by kernel_rfl)) ?_
  rintro o ⟨ho, no⟩
  refine CfgL.eff (o := _) rfl (by kernel_rfl) (by kernel_rfl) (Eff.alloc (z := (.agg #[.string ByteArray.empty])) rfl (by kernel_rfl)) ?_
  rintro rs ⟨hrs, nrs⟩
  refine CfgL.done rfl ?_
  refine Conv.cfg (Γ' := [(6, [], .pointer (some ⟨rs, 0, none⟩)), (3, [], .pointer (some ⟨o, 0, none⟩)), (1, [], .slice la xs.length cap), (2, [], .func (.func 42) #[] #[])]) (Conv.mk (by kernel_rfl)) ?_
  have hmod : ((xs.length : Int) % 4294967296) = (xs.length : Int) := by omega
  refine Cfg.begL rfl ?_
  refine CfgL.pure 4 [(0, false, some (.agg #[.string s]))] none (Γ' := [(12, [], .int .u32 ((xs.length : Int) % 4294967296)), (11, [], .int .i64 (xs.length : Int)), (10, [], .slice la xs.length cap), (9, [], .agg #[.string s]), (6, [], .pointer (some ⟨rs, 0, none⟩)), (3, [], .pointer (some ⟨o, 0, none⟩)), (1, [], .slice la xs.length cap), (2, [], .func (.func 42) #[] #[])]) (nd := (fun S => [(∀ w1, S w1 → (loadVar 64 ⟨o, 0, none⟩).run Try.prog w1 = .ok (.agg #[.string s]) w1)])) (by kernel_rfl) (fun _ => by kernel_rfl) ⟨(fun w1 h => h.oload 1 rfl Try.underlying64 rfl (n := 1) (by kernel_rfl) rfl), trivial⟩ ?_
  refine CfgL.eff (o := _) rfl (by kernel_rfl) (by kernel_rfl) (Eff.buildSlice (e := 46) (cells := #[.int .u32 ((xs.length : Int) % 4294967296)]) (parts := #[(0, .int .u32 ((xs.length : Int) % 4294967296))]) rfl (by kernel_rfl) (fun _ => by kernel_rfl)) ?_
  rintro x3 ⟨hx3, nx3⟩
  refine CfgL.eff (o := _) rfl (by kernel_rfl) (by kernel_rfl) (Eff.callA (vs := [.agg #[.string s], .slice (some ⟨x3, 0, none⟩) 1 1]) (.agg #[.string (tx (s.data.toList ++ flat four [xs.length]))]) rfl Try.func35 rfl rfl (by kernel_rfl) (fun w1 h => wFour s (some ⟨x3, 0, none⟩) 1 [xs.length] [(x3, .cells #[.int .u32 (xs.length : Int)] 46 (0, 0))] w1 (inS_num x3 46 (0, 0) .u32 xs.length) (by have hq := h.own (x3, .cells #[.int .u32 ((xs.length : Int) % 4294967296)] 46 (0, 0)) (List.mem_of_getElem? (i := 0) rfl); rw [hmod] at hq; intro e he; rw [List.mem_singleton.1 he]; exact hq) (by simp [maxLen]) (row_room hr) (one_get h32 (by decide)))) ?_
  rintro ⟨⟩ -
  refine CfgL.eff (o := _) rfl (by kernel_rfl) (by kernel_rfl) (Eff.storeN (b := o) (off := 0) (vs := #[.string (tx (s.data.toList ++ flat four [xs.length]))]) (n := 1) rfl (by kernel_rfl) (by kernel_rfl) (by kernel_rfl) rfl (by simp [one]) 2 (cs := #[.string s]) (e := 64) (by kernel_rfl) (by simp)) ?_
  rintro ⟨⟩ -
  refine CfgL.setO (O' := [(x3, .cells #[.int .u32 ((xs.length : Int) % 4294967296)] 46 (0, 0)), (rs, .cells #[.string ByteArray.empty] 64 (0, 0)), (o, .cells #[.string (tx (s.data.toList ++ flat four [xs.length]))] 64 (0, 0))]) (congrArg (fun (xq : Array Value) => ([(x3, .cells #[.int .u32 ((xs.length : Int) % 4294967296)] 46 (0, 0)), (rs, .cells #[.string ByteArray.empty] 64 (0, 0)), (o, .cells xq 64 (0, 0))] : List (Nat × Obj))) (rfl)) ?_
  refine CfgL.done rfl ?_
  refine Conv.cfg (Γ' := [(6, [], .pointer (some ⟨rs, 0, none⟩)), (3, [], .pointer (some ⟨o, 0, none⟩)), (1, [], .slice la xs.length cap), (2, [], .func (.func 42) #[] #[])]) (Conv.mk (by kernel_rfl)) ?_
  refine Cfg.reg rfl [2, 3, 6, 15, 16, 17] [] (Γ' := [(17, [], .int .i64 0), (16, [], .int .i64 (xs.length : Int)), (15, [], .slice la xs.length cap), (6, [], .pointer (some ⟨rs, 0, none⟩)), (3, [], .pointer (some ⟨o, 0, none⟩)), (2, [], .func (.func 42) #[] #[])]) (nd := (fun _ => [])) (fun _ => by kernel_rfl) trivial ?_
  refine Cfg.setO (O' := [(x3, .cells #[.int .u32 ((xs.length : Int) % 4294967296)] 46 (0, 0)), (rs, .cells #[.string ByteArray.empty] 64 (0, 0)), (o, .cells #[.string (tx (s.data.toList ++ (four xs.length ++ flat text4 (xs.take 0))))] 64 (0, 0))]) (congrArg (fun (xq : Array Value) => ([(x3, .cells #[.int .u32 ((xs.length : Int) % 4294967296)] 46 (0, 0)), (rs, .cells #[.string ByteArray.empty] 64 (0, 0)), (o, .cells xq 64 (0, 0))] : List (Nat × Obj))) (by rw [flat_one, List.take_zero, flat_nil, List.append_nil])) ?_
  refine Cfg.loop rfl (ι := Nat) (fun (i : Nat) => [(17, [], .int .i64 (i : Int)), (16, [], .int .i64 (xs.length : Int)), (15, [], .slice la xs.length cap), (6, [], .pointer (some ⟨rs, 0, none⟩)), (3, [], .pointer (some ⟨o, 0, none⟩)), (2, [], .func (.func 42) #[] #[])]) (fun (i : Nat) => [(rs, .cells #[.string ByteArray.empty] 64 (0, 0)), (o, .cells #[.string (tx (s.data.toList ++ (four xs.length ++ flat text4 (xs.take i))))] 64 (0, 0))]) (fun (i : Nat) => (i ≤ xs.length)) (fun (i : Nat) => xs.length - i) 0 ?_ (Conv.mk (by kernel_rfl)) (.cons _ (.cons_cons _ (.cons_cons _ .slnil))) ?_
  · exact Nat.zero_le _
  · rintro i hi
    refine Cfg.reg rfl [2, 3, 6, 15, 16, 17, 18] [] (Γ' := [(18, [], .bool (decide ((i : Int) < (xs.length : Int)))), (17, [], .int .i64 (i : Int)), (16, [], .int .i64 (xs.length : Int)), (15, [], .slice la xs.length cap), (6, [], .pointer (some ⟨rs, 0, none⟩)), (3, [], .pointer (some ⟨o, 0, none⟩)), (2, [], .func (.func 42) #[] #[])]) (nd := (fun _ => [])) (fun _ => by kernel_rfl) trivial ?_
    refine Cfg.cond rfl (b := (decide ((i : Int) < (xs.length : Int)))) (by kernel_rfl) (fun c1r => ?_) (fun c1r => ?_)
    · have c1 : ((i : Int) < (xs.length : Int)) := (of_decide_eq_true c1r)
      have hroom : (tx (s.data.toList ++ (four xs.length ++ flat text4 (xs.take i)))).size + (4 + (xs.getD i ByteArray.empty).size) ≤ 140737488355328 := by
        have hpt := flat_part (f := text4) (l := xs) (i := i) ByteArray.empty (by omega)
        rw [text4_len] at hpt
        have h1 : (rowF xs).length = (four xs.length).length + (flat text4 xs).length := by unfold rowF; rw [List.length_append]
        rw [tx_size, List.length_append, List.length_append, ba_len]; omega
      obtain ⟨sb, off, cs, te, fre, rfl, hmem, hcs⟩ := hI (by omega)
      refine Conv.cfg (Γ' := [(18, [], .bool (decide ((i : Int) < (xs.length : Int)))), (17, [], .int .i64 (i : Int)), (16, [], .int .i64 (xs.length : Int)), (15, [], .slice (some ⟨sb, off, none⟩) xs.length cap), (6, [], .pointer (some ⟨rs, 0, none⟩)), (3, [], .pointer (some ⟨o, 0, none⟩)), (2, [], .func (.func 42) #[] #[])]) (Conv.mk (by kernel_rfl)) ?_
      refine Cfg.reg rfl [2, 3, 6, 8, 15, 16, 17] [(0, false, none), (0, false, some (.string (xs.getD i ByteArray.empty)))] (Γ' := [(8, [], .string (xs.getD i ByteArray.empty)), (17, [], .int .i64 (i : Int)), (16, [], .int .i64 (xs.length : Int)), (15, [], .slice (some ⟨sb, off, none⟩) xs.length cap), (6, [], .pointer (some ⟨rs, 0, none⟩)), (3, [], .pointer (some ⟨o, 0, none⟩)), (2, [], .func (.func 42) #[] #[])]) (nd := (fun S => [(0 ≤ (i : Int) ∧ (i : Int) < (xs.length : Int)), (∀ w1, S w1 → w1.cell? ⟨sb, (addO off i), none⟩ = some (.string (xs.getD i ByteArray.empty)))])) (fun _ => by kernel_rfl) ⟨(by omega), (fun w1 h => by rw [addO_eq]; exact (cell_cells (h.ro _ hmem)).trans (hcs i (by omega))), trivial⟩ ?_
      refine Cfg.begL rfl ?_
      refine CfgL.pure 3 [(0, false, none), (0, false, some (.agg #[.string (tx (s.data.toList ++ (four xs.length ++ flat text4 (xs.take i))))]))] none (Γ' := [(23, [], .string (xs.getD i ByteArray.empty)), (22, [], .agg #[.string (tx (s.data.toList ++ (four xs.length ++ flat text4 (xs.take i))))]), (21, [], .func (.func 42) #[] #[]), (8, [], .string (xs.getD i ByteArray.empty)), (17, [], .int .i64 (i : Int)), (16, [], .int .i64 (xs.length : Int)), (15, [], .slice (some ⟨sb, off, none⟩) xs.length cap), (6, [], .pointer (some ⟨rs, 0, none⟩)), (3, [], .pointer (some ⟨o, 0, none⟩)), (2, [], .func (.func 42) #[] #[])]) (nd := (fun S => [(∀ w1, S w1 → (loadVar 64 ⟨o, 0, none⟩).run Try.prog w1 = .ok (.agg #[.string (tx (s.data.toList ++ (four xs.length ++ flat text4 (xs.take i))))]) w1)])) (by kernel_rfl) (fun _ => by kernel_rfl) ⟨(fun w1 h => h.oload 1 rfl Try.underlying64 rfl (n := 1) (by kernel_rfl) rfl), trivial⟩ ?_
      refine CfgL.eff (o := _) rfl (by kernel_rfl) (by kernel_rfl) (Eff.callAV (vs := [.agg #[.string (tx (s.data.toList ++ (four xs.length ++ flat text4 (xs.take i))))], .string (xs.getD i ByteArray.empty)]) (.agg #[.string (tx ((tx (s.data.toList ++ (four xs.length ++ flat text4 (xs.take i)))).data.toList ++ text4 (xs.getD i ByteArray.empty)))]) rfl (by kernel_rfl) Try.func42 rfl rfl (by kernel_rfl) (fun w1 h => layA _ _ w1 hroom)) ?_
      rintro ⟨⟩ -
      refine CfgL.eff (o := _) rfl (by kernel_rfl) (by kernel_rfl) (Eff.storeN (b := o) (off := 0) (vs := #[.string (tx ((tx (s.data.toList ++ (four xs.length ++ flat text4 (xs.take i)))).data.toList ++ text4 (xs.getD i ByteArray.empty)))]) (n := 1) rfl (by kernel_rfl) (by kernel_rfl) (by kernel_rfl) rfl (by simp [one]) 1 (cs := #[.string (tx (s.data.toList ++ (four xs.length ++ flat text4 (xs.take i))))]) (e := 64) (by kernel_rfl) (by simp)) ?_
      rintro ⟨⟩ -
      refine CfgL.setO (O' := [(rs, .cells #[.string ByteArray.empty] 64 (0, 0)), (o, .cells #[.string (tx ((tx (s.data.toList ++ (four xs.length ++ flat text4 (xs.take i)))).data.toList ++ text4 (xs.getD i ByteArray.empty)))] 64 (0, 0))]) (congrArg (fun (xq : Array Value) => ([(rs, .cells #[.string ByteArray.empty] 64 (0, 0)), (o, .cells xq 64 (0, 0))] : List (Nat × Obj))) (rfl)) ?_
      refine CfgL.done rfl ?_
      refine Conv.cfg (Γ' := [(17, [], .int .i64 (i : Int)), (16, [], .int .i64 (xs.length : Int)), (15, [], .slice (some ⟨sb, off, none⟩) xs.length cap), (6, [], .pointer (some ⟨rs, 0, none⟩)), (3, [], .pointer (some ⟨o, 0, none⟩)), (2, [], .func (.func 42) #[] #[])]) (Conv.mk (by kernel_rfl)) ?_
      refine Cfg.reg rfl [2, 3, 6, 15, 16, 17] [] (Γ' := [(17, [], .int .i64 ((i : Int) + 1)), (16, [], .int .i64 (xs.length : Int)), (15, [], .slice (some ⟨sb, off, none⟩) xs.length cap), (6, [], .pointer (some ⟨rs, 0, none⟩)), (3, [], .pointer (some ⟨o, 0, none⟩)), (2, [], .func (.func 42) #[] #[])]) (nd := (fun _ => [((-9223372036854775808 : Int) ≤ ((i : Int) + 1) ∧ ((i : Int) + 1) ≤ 9223372036854775807)])) (fun _ => by kernel_rfl) ⟨(by omega), trivial⟩ ?_
      refine Cfg.setO (O' := [(rs, .cells #[.string ByteArray.empty] 64 (0, 0)), (o, .cells #[.string (tx (s.data.toList ++ (four xs.length ++ flat text4 (xs.take (i + 1)))))] 64 (0, 0))]) (congrArg (fun (xq : Array Value) => ([(rs, .cells #[.string ByteArray.empty] 64 (0, 0)), (o, .cells xq 64 (0, 0))] : List (Nat × Obj))) (by rw [tx_list, flat_succ ByteArray.empty (by omega), List.append_assoc, List.append_assoc])) ?_
      refine Cfg.again rfl (i + 1) (show i + 1 ≤ xs.length by omega) (by omega) (Conv.mk (by kernel_rfl)) (.cons_cons _ (.cons_cons _ .slnil))
    · have c1 : (¬ ((i : Int) < (xs.length : Int))) := (of_decide_eq_false c1r)
      obtain rfl : i = xs.length := by omega
      refine Cfg.setO (O' := [(rs, .cells #[.string ByteArray.empty] 64 (0, 0)), (o, .cells #[.string (tx (s.data.toList ++ rowF xs))] 64 (0, 0))]) (congrArg (fun (xq : Array Value) => ([(rs, .cells #[.string ByteArray.empty] 64 (0, 0)), (o, .cells xq 64 (0, 0))] : List (Nat × Obj))) (by rw [List.take_length]; rfl)) ?_
      refine Conv.cfg (Γ' := [(16, [], .int .i64 (xs.length : Int)), (15, [], .slice la xs.length cap), (6, [], .pointer (some ⟨rs, 0, none⟩)), (3, [], .pointer (some ⟨o, 0, none⟩)), (2, [], .func (.func 42) #[] #[])]) (Conv.mk (by kernel_rfl)) ?_
      refine Cfg.begL rfl ?_
      refine CfgL.pure 1 [(0, false, some (.agg #[.string (tx (s.data.toList ++ rowF xs))]))] none (Γ' := [(26, [], .agg #[.string (tx (s.data.toList ++ rowF xs))]), (16, [], .int .i64 (xs.length : Int)), (15, [], .slice la xs.length cap), (6, [], .pointer (some ⟨rs, 0, none⟩)), (3, [], .pointer (some ⟨o, 0, none⟩)), (2, [], .func (.func 42) #[] #[])]) (nd := (fun S => [(∀ w1, S w1 → (loadVar 64 ⟨o, 0, none⟩).run Try.prog w1 = .ok (.agg #[.string (tx (s.data.toList ++ rowF xs))]) w1)])) (by kernel_rfl) (fun _ => by kernel_rfl) ⟨(fun w1 h => h.oload 1 rfl Try.underlying64 rfl (n := 1) (by kernel_rfl) rfl), trivial⟩ ?_
      refine CfgL.eff (o := _) rfl (by kernel_rfl) (by kernel_rfl) (Eff.storeN (b := rs) (off := 0) (vs := #[.string (tx (s.data.toList ++ rowF xs))]) (n := 1) rfl (by kernel_rfl) (by kernel_rfl) (by kernel_rfl) rfl (by simp [one]) 0 (cs := #[.string ByteArray.empty]) (e := 64) (by kernel_rfl) (by simp)) ?_
      rintro ⟨⟩ -
      refine CfgL.setO (O' := [(rs, .cells #[.string (tx (s.data.toList ++ rowF xs))] 64 (0, 0)), (o, .cells #[.string (tx (s.data.toList ++ rowF xs))] 64 (0, 0))]) (congrArg (fun (xq : Array Value) => ([(rs, .cells xq 64 (0, 0)), (o, .cells #[.string (tx (s.data.toList ++ rowF xs))] 64 (0, 0))] : List (Nat × Obj))) (rfl)) ?_
      refine CfgL.done rfl ?_
      refine Conv.cfg (Γ' := [(6, [], .pointer (some ⟨rs, 0, none⟩))]) (Conv.mk (by kernel_rfl)) ?_
      refine Cfg.ret rfl (rs := [.cell 6 64]) rfl [.agg #[.string (tx (s.data.toList ++ rowF xs))]] ⟨⟨_, by kernel_rfl, (fun w1 h => h.oload 0 rfl Try.underlying64 rfl (n := 1) (by kernel_rfl) rfl)⟩, trivial⟩ (fun w1 hp => ?_)
      exact ⟨rfl, hp.ext⟩

set_option maxRecDepth 100000 in
theorem wRowB (s : ByteArray) (la : Option Addr) (cap : Nat) (xs : List ByteArray) (Rl : List (Nat × Obj)) (w : World) (hI : InS Rl la xs.length (fun j => .string (xs.getD j ByteArray.empty))) (hR : Has w Rl) (hn : xs.length ≤ maxLen) (h32 : xs.length < 4294967296) (hr : s.size + (rowF xs).length ≤ 140737488355328) :
    Calls Try.prog 41 #[.agg #[.string s], .slice la xs.length cap, .func (.func 43) #[] #[]] w fun e w' => e = .returned (.agg #[.string (tx (s.data.toList ++ rowF xs))]) ∧ Ext [] w w' := by
  unfold maxLen at hn
  have hts := tx_size
  refine enter (vs := [.agg #[.string s], .slice la xs.length cap, .func (.func 43) #[] #[]]) [] Rl [] Try.func41 rfl (by kernel_rfl) (HP.ofHas hR) ?_
  refine Cfg.begL rfl ?_
  refine CfgL.eff (o := _) rfl (by kernel_rfl) (by kernel_rfl) (Eff.box (v := .agg #[.string s]) rfl (by kernel_rfl)) ?_
  rintro o ⟨ho, no⟩
  refine CfgL.eff (o := _) rfl (by kernel_rfl) (by kernel_rfl) (Eff.alloc (z := (.agg #[.string ByteArray.empty])) rfl (by kernel_rfl)) ?_
  rintro rs ⟨hrs, nrs⟩
  refine CfgL.done rfl ?_
  refine Conv.cfg (Γ' := [(6, [], .pointer (some ⟨rs, 0, none⟩)), (3, [], .pointer (some ⟨o, 0, none⟩)), (1, [], .slice la xs.length cap), (2, [], .func (.func 43) #[] #[])]) (Conv.mk (by kernel_rfl)) ?_
  have hmod : ((xs.length : Int) % 4294967296) = (xs.length : Int) := by omega
  refine Cfg.begL rfl ?_
  refine CfgL.pure 4 [(0, false, some (.agg #[.string s]))] none (Γ' := [(12, [], .int .u32 ((xs.length : Int) % 4294967296)), (11, [], .int .i64 (xs.length : Int)), (10, [], .slice la xs.length cap), (9, [], .agg #[.string s]), (6, [], .pointer (some ⟨rs, 0, none⟩)), (3, [], .pointer (some ⟨o, 0, none⟩)), (1, [], .slice la xs.length cap), (2, [], .func (.func 43) #[] #[])]) (nd := (fun S => [(∀ w1, S w1 → (loadVar 64 ⟨o, 0, none⟩).run Try.prog w1 = .ok (.agg #[.string s]) w1)])) (by kernel_rfl) (fun _ => by kernel_rfl) ⟨(fun w1 h => h.oload 1 rfl Try.underlying64 rfl (n := 1) (by kernel_rfl) rfl), trivial⟩ ?_
  refine CfgL.eff (o := _) rfl (by kernel_rfl) (by kernel_rfl) (Eff.buildSlice (e := 46) (cells := #[.int .u32 ((xs.length : Int) % 4294967296)]) (parts := #[(0, .int .u32 ((xs.length : Int) % 4294967296))]) rfl (by kernel_rfl) (fun _ => by kernel_rfl)) ?_
  rintro x3 ⟨hx3, nx3⟩
  refine CfgL.eff (o := _) rfl (by kernel_rfl) (by kernel_rfl) (Eff.callA (vs := [.agg #[.string s], .slice (some ⟨x3, 0, none⟩) 1 1]) (.agg #[.string (tx (s.data.toList ++ flat four [xs.length]))]) rfl Try.func35 rfl rfl (by kernel_rfl) (fun w1 h => wFour s (some ⟨x3, 0, none⟩) 1 [xs.length] [(x3, .cells #[.int .u32 (xs.length : Int)] 46 (0, 0))] w1 (inS_num x3 46 (0, 0) .u32 xs.length) (by have hq := h.own (x3, .cells #[.int .u32 ((xs.length : Int) % 4294967296)] 46 (0, 0)) (List.mem_of_getElem? (i := 0) rfl); rw [hmod] at hq; intro e he; rw [List.mem_singleton.1 he]; exact hq) (by simp [maxLen]) (row_room hr) (one_get h32 (by decide)))) ?_
  rintro ⟨⟩ -
  refine CfgL.eff (o := _) rfl (by kernel_rfl) (by kernel_rfl) (Eff.storeN (b := o) (off := 0) (vs := #[.string (tx (s.data.toList ++ flat four [xs.length]))]) (n := 1) rfl (by kernel_rfl) (by kernel_rfl) (by kernel_rfl) rfl (by simp [one]) 2 (cs := #[.string s]) (e := 64) (by kernel_rfl) (by simp)) ?_
  rintro ⟨⟩ -
  refine CfgL.setO (O' := [(x3, .cells #[.int .u32 ((xs.length : Int) % 4294967296)] 46 (0, 0)), (rs, .cells #[.string ByteArray.empty] 64 (0, 0)), (o, .cells #[.string (tx (s.data.toList ++ flat four [xs.length]))] 64 (0, 0))]) (congrArg (fun (xq : Array Value) => ([(x3, .cells #[.int .u32 ((xs.length : Int) % 4294967296)] 46 (0, 0)), (rs, .cells #[.string ByteArray.empty] 64 (0, 0)), (o, .cells xq 64 (0, 0))] : List (Nat × Obj))) (rfl)) ?_
  refine CfgL.done rfl ?_
  refine Conv.cfg (Γ' := [(6, [], .pointer (some ⟨rs, 0, none⟩)), (3, [], .pointer (some ⟨o, 0, none⟩)), (1, [], .slice la xs.length cap), (2, [], .func (.func 43) #[] #[])]) (Conv.mk (by kernel_rfl)) ?_
  refine Cfg.reg rfl [2, 3, 6, 15, 16, 17] [] (Γ' := [(17, [], .int .i64 0), (16, [], .int .i64 (xs.length : Int)), (15, [], .slice la xs.length cap), (6, [], .pointer (some ⟨rs, 0, none⟩)), (3, [], .pointer (some ⟨o, 0, none⟩)), (2, [], .func (.func 43) #[] #[])]) (nd := (fun _ => [])) (fun _ => by kernel_rfl) trivial ?_
  refine Cfg.setO (O' := [(x3, .cells #[.int .u32 ((xs.length : Int) % 4294967296)] 46 (0, 0)), (rs, .cells #[.string ByteArray.empty] 64 (0, 0)), (o, .cells #[.string (tx (s.data.toList ++ (four xs.length ++ flat text4 (xs.take 0))))] 64 (0, 0))]) (congrArg (fun (xq : Array Value) => ([(x3, .cells #[.int .u32 ((xs.length : Int) % 4294967296)] 46 (0, 0)), (rs, .cells #[.string ByteArray.empty] 64 (0, 0)), (o, .cells xq 64 (0, 0))] : List (Nat × Obj))) (by rw [flat_one, List.take_zero, flat_nil, List.append_nil])) ?_
  refine Cfg.loop rfl (ι := Nat) (fun (i : Nat) => [(17, [], .int .i64 (i : Int)), (16, [], .int .i64 (xs.length : Int)), (15, [], .slice la xs.length cap), (6, [], .pointer (some ⟨rs, 0, none⟩)), (3, [], .pointer (some ⟨o, 0, none⟩)), (2, [], .func (.func 43) #[] #[])]) (fun (i : Nat) => [(rs, .cells #[.string ByteArray.empty] 64 (0, 0)), (o, .cells #[.string (tx (s.data.toList ++ (four xs.length ++ flat text4 (xs.take i))))] 64 (0, 0))]) (fun (i : Nat) => (i ≤ xs.length)) (fun (i : Nat) => xs.length - i) 0 ?_ (Conv.mk (by kernel_rfl)) (.cons _ (.cons_cons _ (.cons_cons _ .slnil))) ?_
  · exact Nat.zero_le _
  · rintro i hi
    refine Cfg.reg rfl [2, 3, 6, 15, 16, 17, 18] [] (Γ' := [(18, [], .bool (decide ((i : Int) < (xs.length : Int)))), (17, [], .int .i64 (i : Int)), (16, [], .int .i64 (xs.length : Int)), (15, [], .slice la xs.length cap), (6, [], .pointer (some ⟨rs, 0, none⟩)), (3, [], .pointer (some ⟨o, 0, none⟩)), (2, [], .func (.func 43) #[] #[])]) (nd := (fun _ => [])) (fun _ => by kernel_rfl) trivial ?_
    refine Cfg.cond rfl (b := (decide ((i : Int) < (xs.length : Int)))) (by kernel_rfl) (fun c1r => ?_) (fun c1r => ?_)
    · have c1 : ((i : Int) < (xs.length : Int)) := (of_decide_eq_true c1r)
      have hroom : (tx (s.data.toList ++ (four xs.length ++ flat text4 (xs.take i)))).size + (4 + (xs.getD i ByteArray.empty).size) ≤ 140737488355328 := by
        have hpt := flat_part (f := text4) (l := xs) (i := i) ByteArray.empty (by omega)
        rw [text4_len] at hpt
        have h1 : (rowF xs).length = (four xs.length).length + (flat text4 xs).length := by unfold rowF; rw [List.length_append]
        rw [tx_size, List.length_append, List.length_append, ba_len]; omega
      obtain ⟨sb, off, cs, te, fre, rfl, hmem, hcs⟩ := hI (by omega)
      refine Conv.cfg (Γ' := [(18, [], .bool (decide ((i : Int) < (xs.length : Int)))), (17, [], .int .i64 (i : Int)), (16, [], .int .i64 (xs.length : Int)), (15, [], .slice (some ⟨sb, off, none⟩) xs.length cap), (6, [], .pointer (some ⟨rs, 0, none⟩)), (3, [], .pointer (some ⟨o, 0, none⟩)), (2, [], .func (.func 43) #[] #[])]) (Conv.mk (by kernel_rfl)) ?_
      refine Cfg.reg rfl [2, 3, 6, 8, 15, 16, 17] [(0, false, none), (0, false, some (.string (xs.getD i ByteArray.empty)))] (Γ' := [(8, [], .string (xs.getD i ByteArray.empty)), (17, [], .int .i64 (i : Int)), (16, [], .int .i64 (xs.length : Int)), (15, [], .slice (some ⟨sb, off, none⟩) xs.length cap), (6, [], .pointer (some ⟨rs, 0, none⟩)), (3, [], .pointer (some ⟨o, 0, none⟩)), (2, [], .func (.func 43) #[] #[])]) (nd := (fun S => [(0 ≤ (i : Int) ∧ (i : Int) < (xs.length : Int)), (∀ w1, S w1 → w1.cell? ⟨sb, (addO off i), none⟩ = some (.string (xs.getD i ByteArray.empty)))])) (fun _ => by kernel_rfl) ⟨(by omega), (fun w1 h => by rw [addO_eq]; exact (cell_cells (h.ro _ hmem)).trans (hcs i (by omega))), trivial⟩ ?_
      refine Cfg.begL rfl ?_
      refine CfgL.pure 3 [(0, false, none), (0, false, some (.agg #[.string (tx (s.data.toList ++ (four xs.length ++ flat text4 (xs.take i))))]))] none (Γ' := [(23, [], .string (xs.getD i ByteArray.empty)), (22, [], .agg #[.string (tx (s.data.toList ++ (four xs.length ++ flat text4 (xs.take i))))]), (21, [], .func (.func 43) #[] #[]), (8, [], .string (xs.getD i ByteArray.empty)), (17, [], .int .i64 (i : Int)), (16, [], .int .i64 (xs.length : Int)), (15, [], .slice (some ⟨sb, off, none⟩) xs.length cap), (6, [], .pointer (some ⟨rs, 0, none⟩)), (3, [], .pointer (some ⟨o, 0, none⟩)), (2, [], .func (.func 43) #[] #[])]) (nd := (fun S => [(∀ w1, S w1 → (loadVar 64 ⟨o, 0, none⟩).run Try.prog w1 = .ok (.agg #[.string (tx (s.data.toList ++ (four xs.length ++ flat text4 (xs.take i))))]) w1)])) (by kernel_rfl) (fun _ => by kernel_rfl) ⟨(fun w1 h => h.oload 1 rfl Try.underlying64 rfl (n := 1) (by kernel_rfl) rfl), trivial⟩ ?_
      refine CfgL.eff (o := _) rfl (by kernel_rfl) (by kernel_rfl) (Eff.callAV (vs := [.agg #[.string (tx (s.data.toList ++ (four xs.length ++ flat text4 (xs.take i))))], .string (xs.getD i ByteArray.empty)]) (.agg #[.string (tx ((tx (s.data.toList ++ (four xs.length ++ flat text4 (xs.take i)))).data.toList ++ text4 (xs.getD i ByteArray.empty)))]) rfl (by kernel_rfl) Try.func43 rfl rfl (by kernel_rfl) (fun w1 h => layB _ _ w1 hroom)) ?_
      rintro ⟨⟩ -
      refine CfgL.eff (o := _) rfl (by kernel_rfl) (by kernel_rfl) (Eff.storeN (b := o) (off := 0) (vs := #[.string (tx ((tx (s.data.toList ++ (four xs.length ++ flat text4 (xs.take i)))).data.toList ++ text4 (xs.getD i ByteArray.empty)))]) (n := 1) rfl (by kernel_rfl) (by kernel_rfl) (by kernel_rfl) rfl (by simp [one]) 1 (cs := #[.string (tx (s.data.toList ++ (four xs.length ++ flat text4 (xs.take i))))]) (e := 64) (by kernel_rfl) (by simp)) ?_
      rintro ⟨⟩ -
      refine CfgL.setO (O' := [(rs, .cells #[.string ByteArray.empty] 64 (0, 0)), (o, .cells #[.string (tx ((tx (s.data.toList ++ (four xs.length ++ flat text4 (xs.take i)))).data.toList ++ text4 (xs.getD i ByteArray.empty)))] 64 (0, 0))]) (congrArg (fun (xq : Array Value) => ([(rs, .cells #[.string ByteArray.empty] 64 (0, 0)), (o, .cells xq 64 (0, 0))] : List (Nat × Obj))) (rfl)) ?_
      refine CfgL.done rfl ?_
      refine Conv.cfg (Γ' := [(17, [], .int .i64 (i : Int)), (16, [], .int .i64 (xs.length : Int)), (15, [], .slice (some ⟨sb, off, none⟩) xs.length cap), (6, [], .pointer (some ⟨rs, 0, none⟩)), (3, [], .pointer (some ⟨o, 0, none⟩)), (2, [], .func (.func 43) #[] #[])]) (Conv.mk (by kernel_rfl)) ?_
      refine Cfg.reg rfl [2, 3, 6, 15, 16, 17] [] (Γ' := [(17, [], .int .i64 ((i : Int) + 1)), (16, [], .int .i64 (xs.length : Int)), (15, [], .slice (some ⟨sb, off, none⟩) xs.length cap), (6, [], .pointer (some ⟨rs, 0, none⟩)), (3, [], .pointer (some ⟨o, 0, none⟩)), (2, [], .func (.func 43) #[] #[])]) (nd := (fun _ => [((-9223372036854775808 : Int) ≤ ((i : Int) + 1) ∧ ((i : Int) + 1) ≤ 9223372036854775807)])) (fun _ => by kernel_rfl) ⟨(by omega), trivial⟩ ?_
      refine Cfg.setO (O' := [(rs, .cells #[.string ByteArray.empty] 64 (0, 0)), (o, .cells #[.string (tx (s.data.toList ++ (four xs.length ++ flat text4 (xs.take (i + 1)))))] 64 (0, 0))]) (congrArg (fun (xq : Array Value) => ([(rs, .cells #[.string ByteArray.empty] 64 (0, 0)), (o, .cells xq 64 (0, 0))] : List (Nat × Obj))) (by rw [tx_list, flat_succ ByteArray.empty (by omega), List.append_assoc, List.append_assoc])) ?_
      refine Cfg.again rfl (i + 1) (show i + 1 ≤ xs.length by omega) (by omega) (Conv.mk (by kernel_rfl)) (.cons_cons _ (.cons_cons _ .slnil))
    · have c1 : (¬ ((i : Int) < (xs.length : Int))) := (of_decide_eq_false c1r)
      obtain rfl : i = xs.length := by omega
      refine Cfg.setO (O' := [(rs, .cells #[.string ByteArray.empty] 64 (0, 0)), (o, .cells #[.string (tx (s.data.toList ++ rowF xs))] 64 (0, 0))]) (congrArg (fun (xq : Array Value) => ([(rs, .cells #[.string ByteArray.empty] 64 (0, 0)), (o, .cells xq 64 (0, 0))] : List (Nat × Obj))) (by rw [List.take_length]; rfl)) ?_
      refine Conv.cfg (Γ' := [(16, [], .int .i64 (xs.length : Int)), (15, [], .slice la xs.length cap), (6, [], .pointer (some ⟨rs, 0, none⟩)), (3, [], .pointer (some ⟨o, 0, none⟩)), (2, [], .func (.func 43) #[] #[])]) (Conv.mk (by kernel_rfl)) ?_
      refine Cfg.begL rfl ?_
      refine CfgL.pure 1 [(0, false, some (.agg #[.string (tx (s.data.toList ++ rowF xs))]))] none (Γ' := [(26, [], .agg #[.string (tx (s.data.toList ++ rowF xs))]), (16, [], .int .i64 (xs.length : Int)), (15, [], .slice la xs.length cap), (6, [], .pointer (some ⟨rs, 0, none⟩)), (3, [], .pointer (some ⟨o, 0, none⟩)), (2, [], .func (.func 43) #[] #[])]) (nd := (fun S => [(∀ w1, S w1 → (loadVar 64 ⟨o, 0, none⟩).run Try.prog w1 = .ok (.agg #[.string (tx (s.data.toList ++ rowF xs))]) w1)])) (by kernel_rfl) (fun _ => by kernel_rfl) ⟨(fun w1 h => h.oload 1 rfl Try.underlying64 rfl (n := 1) (by kernel_rfl) rfl), trivial⟩ ?_
      refine CfgL.eff (o := _) rfl (by kernel_rfl) (by kernel_rfl) (Eff.storeN (b := rs) (off := 0) (vs := #[.string (tx (s.data.toList ++ rowF xs))]) (n := 1) rfl (by kernel_rfl) (by kernel_rfl) (by kernel_rfl) rfl (by simp [one]) 0 (cs := #[.string ByteArray.empty]) (e := 64) (by kernel_rfl) (by simp)) ?_
      rintro ⟨⟩ -
      refine CfgL.setO (O' := [(rs, .cells #[.string (tx (s.data.toList ++ rowF xs))] 64 (0, 0)), (o, .cells #[.string (tx (s.data.toList ++ rowF xs))] 64 (0, 0))]) (congrArg (fun (xq : Array Value) => ([(rs, .cells xq 64 (0, 0)), (o, .cells #[.string (tx (s.data.toList ++ rowF xs))] 64 (0, 0))] : List (Nat × Obj))) (rfl)) ?_
      refine CfgL.done rfl ?_
      refine Conv.cfg (Γ' := [(6, [], .pointer (some ⟨rs, 0, none⟩))]) (Conv.mk (by kernel_rfl)) ?_
      refine Cfg.ret rfl (rs := [.cell 6 64]) rfl [.agg #[.string (tx (s.data.toList ++ rowF xs))]] ⟨⟨_, by kernel_rfl, (fun w1 h => h.oload 0 rfl Try.underlying64 rfl (n := 1) (by kernel_rfl) rfl)⟩, trivial⟩ (fun w1 hp => ?_)
      exact ⟨rfl, hp.ext⟩

end Go.Proofs.Ytmkefcjphdaoiaa
