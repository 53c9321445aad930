/- wire: numbers as bytes; texts laid behind one another. Conditions: what is laid is no longer than memory bears. -/
import Derived.Test.YtejgpniaoccpoaaBld
namespace Go.Proofs.Ytejgpniaoccpoaa
open K
set_option linter.unusedVariables false

/-- A number in k bytes, the greatest first. -/
def be (n : Nat) : Nat → List UInt8
  | 0 => []
  | k + 1 => UInt8.ofNat (n / 256 ^ k) :: be n k
theorem be_len (n : Nat) : ∀ k, (be n k).length = k
  | 0 => rfl
  | k + 1 => by rw [be, List.length_cons, be_len n k]
def nrow (n k : Nat) : List UInt8 := (List.range 8).map fun i => if i < k then UInt8.ofNat (n / 256 ^ (7 - i)) else 0
theorem nrow_len (n k : Nat) : (nrow n k).length = 8 := by simp [nrow]
theorem nrow_zero (n : Nat) : nrow n 0 = List.replicate 8 0 := rfl
theorem nrow_end (n : Nat) : nrow n 8 = be n 8 := rfl
theorem nrow_set (n k : Nat) (hk : k < 8) : (nrow n k).set k (UInt8.ofNat (n / 256 ^ (7 - k))) = nrow n (k + 1) := by
  rcases k with _ | _ | _ | _ | _ | _ | _ | _ | k <;> first | rfl | omega
theorem u8_mod (m : Nat) : UInt8.ofNat (m % 256) = UInt8.ofNat m := by
  apply UInt8.toNat_inj.1
  simp
theorem nrow_step (n k : Nat) (hk : k < 8) {x : Int} (hx : x = ((n : Int) / ((2 ^ (56 - 8 * (k : Int)).toNat : Nat) : Int)) % 256) : (bv (nrow n k)).setIfInBounds k (.int .u8 x) = bv (nrow n (k + 1)) := by
  have e1 : ((n : Int) / ((2 ^ (56 - 8 * (k : Int)).toNat : Nat) : Int)) % 256 = ((n / 2 ^ (56 - 8 * (k : Int)).toNat % 256 : Nat) : Int) := by rw [Int.natCast_emod, Int.natCast_ediv]; rfl
  rw [hx, e1]
  have hlt : n / 2 ^ (56 - 8 * (k : Int)).toNat % 256 < 256 := Nat.mod_lt _ (by decide)
  rw [bv_set (by omega) (by omega), Int.toNat_natCast, u8_mod, show (56 - 8 * (k : Int)).toNat = 8 * (7 - k) by omega, Nat.pow_mul, show 2 ^ 8 = 256 from rfl, nrow_set n k hk]
/-- A number's text. -/
def beS (n k : Nat) : ByteArray := ⟨(be n k).toArray⟩
theorem beS_size (n k : Nat) : (beS n k).size = k := by simp [beS, ByteArray.size, be_len]
theorem beS_list (n k : Nat) : (beS n k).data.toList = be n k := rfl
theorem be_drop (n : Nat) : ∀ (j k : Nat), (be n (j + k)).drop j = be n k
  | 0, k => by rw [Nat.zero_add]; rfl
  | j + 1, k => by rw [show j + 1 + k = (j + k) + 1 by omega, be, List.drop_succ_cons, be_drop n j k]
theorem num_str {P : Program} {w0 w : World} {M : List Nat} {R O : List (Nat × Obj)} {n k b j c : Nat} {t : TypeId} (h : HP w0 M R O w) (ho : O[0]? = some (b, .cells (bv (nrow n k)) t (0, 0))) (hk : k = 8) (m : Nat) (hj : j + m = 8) :
    (Conv.bytesToString (.slice (some ⟨b, j, none⟩) m c)).run P w = .ok (.string (beS n m)) w := by
  subst hk
  refine bytes_str (be_len n m) fun i hi => ?_
  have e := be_drop n j m
  rw [hj] at e
  rw [← e, h.ocell 0 ho (bv_get (n := 8) (nrow_len n 8) (show j + i < 8 by omega)), nrow_end]
  simp [List.getD_eq_getElem?_getD, List.getElem?_drop]

def sat (ss : List ByteArray) (i : Nat) : ByteArray := ss.getD i ByteArray.empty
/-- Texts, one behind the other. -/
def cat (ss : List ByteArray) : List UInt8 := ss.flatMap fun s => s.data.toList
theorem take_sat {ss : List ByteArray} {i : Nat} (h : i < ss.length) : ss.take (i + 1) = ss.take i ++ [sat ss i] := by
  rw [List.take_succ_eq_append_getElem h]; simp [sat, List.getElem?_eq_getElem h]
theorem cat_app (a b : List ByteArray) : cat (a ++ b) = cat a ++ cat b := List.flatMap_append ..
theorem cat_one (s : ByteArray) : cat [s] = s.data.toList := by simp [cat]
theorem cat_succ {ss : List ByteArray} {i : Nat} (h : i < ss.length) : cat (ss.take (i + 1)) = cat (ss.take i) ++ (sat ss i).data.toList := by rw [take_sat h, cat_app, cat_one]
theorem cat_part {ss : List ByteArray} {i : Nat} (h : i < ss.length) : (cat (ss.take i)).length + (sat ss i).size ≤ (cat ss).length := by
  have h1 := cat_succ h
  have h2 : cat ss = cat (ss.take (i + 1)) ++ cat (ss.drop (i + 1)) := by rw [← cat_app, List.take_append_drop]
  rw [h2, h1, List.length_append, List.length_append, ba_len]; omega
/-- The text of bytes. -/
def tx (l : List UInt8) : ByteArray := ⟨l.toArray⟩
theorem tx_list (l : List UInt8) : (tx l).data.toList = l := rfl
theorem tx_size (l : List UInt8) : (tx l).size = l.length := by simp [tx, ByteArray.size]
theorem tx_back (s : ByteArray) : tx s.data.toList = s := by cases s; rfl
theorem one_len (x : ByteArray) : [x].length ≤ maxLen := by simp [maxLen]
theorem inS_lit (bk : Nat) (t : TypeId) (fr : Nat × Nat) (ss : List ByteArray) : InS [(bk, .cells (ss.map Value.string).toArray t fr)] (some ⟨bk, 0, none⟩) ss.length (fun j => .string (sat ss j)) := by
  intro _
  refine ⟨bk, 0, _, t, fr, rfl, List.mem_singleton.2 rfl, fun j hj => ?_⟩
  rw [Nat.zero_add]
  simp [sat, List.getElem?_eq_getElem hj]

set_option maxRecDepth 100000 in
theorem wNumber1 (n : Nat) (w : World) (hn : n < 2 ^ 64) :
    Calls Try.prog 45 #[.int .u64 (n : Int), .int .i64 1] w fun e w' => e = .returned (.string (beS n 1)) ∧ Ext [] w w' := by
  refine enter (vs := [.int .u64 (n : Int), .int .i64 1]) [] [] [] Try.func45 rfl (by kernel_rfl) (HP.start w) ?_
  refine Cfg.reg rfl [0, 1] [] (Γ' := [(0, [], .int .u64 (n : Int)), (1, [], .int .i64 1)]) (nd := (fun _ => [])) (fun _ => by kernel_rfl) trivial ?_
  refine Cfg.begL rfl ?_
  refine CfgL.eff (o := _) rfl (by kernel_rfl) (by kernel_rfl) (Eff.alloc (z := (.agg (bv (List.replicate 8 0)))) rfl (by kernel_rfl)) ?_
  rintro b ⟨hb, nb⟩
  refine CfgL.done rfl ?_
  refine Cfg.reg rfl [0, 1, 5, 7] [] (Γ' := [(7, [], .int .i64 0), (5, [], .pointer (some ⟨b, 0, none⟩)), (0, [], .int .u64 (n : Int)), (1, [], .int .i64 1)]) (nd := (fun _ => [])) (fun _ => by kernel_rfl) trivial ?_
  refine Cfg.loop rfl (ι := Nat) (fun (k : Nat) => [(7, [], .int .i64 (k : Int)), (5, [], .pointer (some ⟨b, 0, none⟩)), (0, [], .int .u64 (n : Int)), (1, [], .int .i64 1)]) (fun (k : Nat) => [(b, .cells (bv (nrow n k)) 108 (0, 0))]) (fun (k : Nat) => (k ≤ 8)) (fun (k : Nat) => 8 - k) 0 ?_ (Conv.mk (by kernel_rfl)) (List.Sublist.refl _) ?_
  · exact Nat.zero_le _
  · rintro k hk
    refine Cfg.reg rfl [0, 1, 5, 7, 8] [] (Γ' := [(8, [], .bool (decide ((k : Int) < (8 : Int)))), (7, [], .int .i64 (k : Int)), (5, [], .pointer (some ⟨b, 0, none⟩)), (0, [], .int .u64 (n : Int)), (1, [], .int .i64 1)]) (nd := (fun _ => [])) (fun _ => by kernel_rfl) trivial ?_
    refine Cfg.cond rfl (b := (decide ((k : Int) < (8 : Int)))) (by kernel_rfl) (fun c1r => ?_) (fun c1r => ?_)
    · have c1 : ((k : Int) < (8 : Int)) := (of_decide_eq_true c1r)
      refine Cfg.reg rfl [0, 1, 5, 6, 7] [] (Γ' := [(6, [], .int .i64 (k : Int)), (7, [], .int .i64 (k : Int)), (5, [], .pointer (some ⟨b, 0, none⟩)), (0, [], .int .u64 (n : Int)), (1, [], .int .i64 1)]) (nd := (fun _ => [])) (fun _ => by kernel_rfl) trivial ?_
      refine Cfg.begL rfl ?_
      refine CfgL.pure 8 [] none (Γ' := [(17, [], .pointer (some ⟨b, k, none⟩)), (16, [], .int .u8 (((n : Int) / ((2 ^ ((56 - (8 * (k : Int)))).toNat : Nat) : Int)) % 256)), (15, [], .int .u64 ((n : Int) / ((2 ^ ((56 - (8 * (k : Int)))).toNat : Nat) : Int))), (14, [], .int .i64 (56 - (8 * (k : Int)))), (13, [], .int .i64 (8 * (k : Int))), (12, [], .int .i64 (k : Int)), (11, [], .int .u64 (n : Int)), (10, [], .int .i64 (k : Int)), (6, [], .int .i64 (k : Int)), (7, [], .int .i64 (k : Int)), (5, [], .pointer (some ⟨b, 0, none⟩)), (0, [], .int .u64 (n : Int)), (1, [], .int .i64 1)]) (nd := (fun _ => [((-9223372036854775808 : Int) ≤ (8 * (k : Int)) ∧ (8 * (k : Int)) ≤ 9223372036854775807), ((-9223372036854775808 : Int) ≤ (56 - (8 * (k : Int))) ∧ (56 - (8 * (k : Int))) ≤ 9223372036854775807), (0 ≤ (56 - (8 * (k : Int))) ∧ ((56 - (8 * (k : Int)))).toNat ≤ 64), (0 ≤ (k : Int) ∧ (k : Int) < (8 : Int))])) (by kernel_rfl) (fun _ => by kernel_rfl) ⟨(by omega), (by omega), (by omega), (by omega), trivial⟩ ?_
      refine CfgL.eff (o := _) rfl (by kernel_rfl) (by kernel_rfl) (Eff.store1 (b := b) (off := k) (v := .int .u8 (((n : Int) / ((2 ^ ((56 - (8 * (k : Int)))).toNat : Nat) : Int)) % 256)) rfl (by kernel_rfl) (by kernel_rfl) rfl (by kernel_rfl) 0 (cs := (bv (nrow n k))) (e := 108) (by kernel_rfl) (by rw [bv_size, nrow_len]; omega)) ?_
      rintro ⟨⟩ -
      refine CfgL.done rfl ?_
      refine Conv.cfg (Γ' := [(7, [], .int .i64 (k : Int)), (5, [], .pointer (some ⟨b, 0, none⟩)), (0, [], .int .u64 (n : Int)), (1, [], .int .i64 1)]) (Conv.mk (by kernel_rfl)) ?_
      refine Cfg.reg rfl [0, 1, 5, 7] [] (Γ' := [(7, [], .int .i64 ((k : Int) + 1)), (5, [], .pointer (some ⟨b, 0, none⟩)), (0, [], .int .u64 (n : Int)), (1, [], .int .i64 1)]) (nd := (fun _ => [((-9223372036854775808 : Int) ≤ ((k : Int) + 1) ∧ ((k : Int) + 1) ≤ 9223372036854775807)])) (fun _ => by kernel_rfl) ⟨(by omega), trivial⟩ ?_
      refine Cfg.setO (O' := [(b, .cells (bv (nrow n (k + 1))) 108 (0, 0))]) (congrArg (fun (xq : Array Value) => ([(b, .cells xq 108 (0, 0))] : List (Nat × Obj))) (nrow_step n k (by omega) rfl)) ?_
      refine Cfg.again rfl (k + 1) (show k + 1 ≤ 8 by omega) (by omega) (Conv.mk (by kernel_rfl)) (.cons_cons _ .slnil)
    · have c1 : (¬ ((k : Int) < (8 : Int))) := (of_decide_eq_false c1r)
      refine Cfg.reg rfl [4] [(0, false, none), (0, false, none), (0, false, none), (0, false, some (.string (beS n 1)))] (Γ' := [(4, [], .string (beS n 1))]) (nd := (fun S => [((-9223372036854775808 : Int) ≤ (7 : Int) ∧ (7 : Int) ≤ 9223372036854775807), (0 ≤ (7 : Int)), (7 ≤ 8 ∧ 8 ≤ 8), (∀ w1, S w1 → (Conv.bytesToString (.slice (some ⟨b, (if 8 = 7 then 0 else 7), none⟩) (8 - 7) (8 - 7))).run Try.prog w1 = .ok (.string (beS n 1)) w1)])) (fun _ => by kernel_rfl) ⟨(by omega), (by omega), (by omega), (fun w1 h => num_str h rfl (by omega) 1 rfl), trivial⟩ ?_
      refine Cfg.ret rfl (rs := [.tmp 4]) rfl [.string (beS n 1)] ⟨by kernel_rfl, trivial⟩ (fun w1 hp => ?_)
      exact ⟨rfl, hp.ext⟩

set_option maxRecDepth 100000 in
theorem wNumber4 (n : Nat) (w : World) (hn : n < 2 ^ 64) :
    Calls Try.prog 45 #[.int .u64 (n : Int), .int .i64 4] w fun e w' => e = .returned (.string (beS n 4)) ∧ Ext [] w w' := by
  refine enter (vs := [.int .u64 (n : Int), .int .i64 4]) [] [] [] Try.func45 rfl (by kernel_rfl) (HP.start w) ?_
  refine Cfg.reg rfl [0, 1] [] (Γ' := [(0, [], .int .u64 (n : Int)), (1, [], .int .i64 4)]) (nd := (fun _ => [])) (fun _ => by kernel_rfl) trivial ?_
  refine Cfg.begL rfl ?_
  refine CfgL.eff (o := _) rfl (by kernel_rfl) (by kernel_rfl) (Eff.alloc (z := (.agg (bv (List.replicate 8 0)))) rfl (by kernel_rfl)) ?_
  rintro b ⟨hb, nb⟩
  refine CfgL.done rfl ?_
  refine Cfg.reg rfl [0, 1, 5, 7] [] (Γ' := [(7, [], .int .i64 0), (5, [], .pointer (some ⟨b, 0, none⟩)), (0, [], .int .u64 (n : Int)), (1, [], .int .i64 4)]) (nd := (fun _ => [])) (fun _ => by kernel_rfl) trivial ?_
  refine Cfg.loop rfl (ι := Nat) (fun (k : Nat) => [(7, [], .int .i64 (k : Int)), (5, [], .pointer (some ⟨b, 0, none⟩)), (0, [], .int .u64 (n : Int)), (1, [], .int .i64 4)]) (fun (k : Nat) => [(b, .cells (bv (nrow n k)) 108 (0, 0))]) (fun (k : Nat) => (k ≤ 8)) (fun (k : Nat) => 8 - k) 0 ?_ (Conv.mk (by kernel_rfl)) (List.Sublist.refl _) ?_
  · exact Nat.zero_le _
  · rintro k hk
    refine Cfg.reg rfl [0, 1, 5, 7, 8] [] (Γ' := [(8, [], .bool (decide ((k : Int) < (8 : Int)))), (7, [], .int .i64 (k : Int)), (5, [], .pointer (some ⟨b, 0, none⟩)), (0, [], .int .u64 (n : Int)), (1, [], .int .i64 4)]) (nd := (fun _ => [])) (fun _ => by kernel_rfl) trivial ?_
    refine Cfg.cond rfl (b := (decide ((k : Int) < (8 : Int)))) (by kernel_rfl) (fun c1r => ?_) (fun c1r => ?_)
    · have c1 : ((k : Int) < (8 : Int)) := (of_decide_eq_true c1r)
      refine Cfg.reg rfl [0, 1, 5, 6, 7] [] (Γ' := [(6, [], .int .i64 (k : Int)), (7, [], .int .i64 (k : Int)), (5, [], .pointer (some ⟨b, 0, none⟩)), (0, [], .int .u64 (n : Int)), (1, [], .int .i64 4)]) (nd := (fun _ => [])) (fun _ => by kernel_rfl) trivial ?_
      refine Cfg.begL rfl ?_
      refine CfgL.pure 8 [] none (Γ' := [(17, [], .pointer (some ⟨b, k, none⟩)), (16, [], .int .u8 (((n : Int) / ((2 ^ ((56 - (8 * (k : Int)))).toNat : Nat) : Int)) % 256)), (15, [], .int .u64 ((n : Int) / ((2 ^ ((56 - (8 * (k : Int)))).toNat : Nat) : Int))), (14, [], .int .i64 (56 - (8 * (k : Int)))), (13, [], .int .i64 (8 * (k : Int))), (12, [], .int .i64 (k : Int)), (11, [], .int .u64 (n : Int)), (10, [], .int .i64 (k : Int)), (6, [], .int .i64 (k : Int)), (7, [], .int .i64 (k : Int)), (5, [], .pointer (some ⟨b, 0, none⟩)), (0, [], .int .u64 (n : Int)), (1, [], .int .i64 4)]) (nd := (fun _ => [((-9223372036854775808 : Int) ≤ (8 * (k : Int)) ∧ (8 * (k : Int)) ≤ 9223372036854775807), ((-9223372036854775808 : Int) ≤ (56 - (8 * (k : Int))) ∧ (56 - (8 * (k : Int))) ≤ 9223372036854775807), (0 ≤ (56 - (8 * (k : Int))) ∧ ((56 - (8 * (k : Int)))).toNat ≤ 64), (0 ≤ (k : Int) ∧ (k : Int) < (8 : Int))])) (by kernel_rfl) (fun _ => by kernel_rfl) ⟨(by omega), (by omega), (by omega), (by omega), trivial⟩ ?_
      refine CfgL.eff (o := _) rfl (by kernel_rfl) (by kernel_rfl) (Eff.store1 (b := b) (off := k) (v := .int .u8 (((n : Int) / ((2 ^ ((56 - (8 * (k : Int)))).toNat : Nat) : Int)) % 256)) rfl (by kernel_rfl) (by kernel_rfl) rfl (by kernel_rfl) 0 (cs := (bv (nrow n k))) (e := 108) (by kernel_rfl) (by rw [bv_size, nrow_len]; omega)) ?_
      rintro ⟨⟩ -
      refine CfgL.done rfl ?_
      refine Conv.cfg (Γ' := [(7, [], .int .i64 (k : Int)), (5, [], .pointer (some ⟨b, 0, none⟩)), (0, [], .int .u64 (n : Int)), (1, [], .int .i64 4)]) (Conv.mk (by kernel_rfl)) ?_
      refine Cfg.reg rfl [0, 1, 5, 7] [] (Γ' := [(7, [], .int .i64 ((k : Int) + 1)), (5, [], .pointer (some ⟨b, 0, none⟩)), (0, [], .int .u64 (n : Int)), (1, [], .int .i64 4)]) (nd := (fun _ => [((-9223372036854775808 : Int) ≤ ((k : Int) + 1) ∧ ((k : Int) + 1) ≤ 9223372036854775807)])) (fun _ => by kernel_rfl) ⟨(by omega), trivial⟩ ?_
      refine Cfg.setO (O' := [(b, .cells (bv (nrow n (k + 1))) 108 (0, 0))]) (congrArg (fun (xq : Array Value) => ([(b, .cells xq 108 (0, 0))] : List (Nat × Obj))) (nrow_step n k (by omega) rfl)) ?_
      refine Cfg.again rfl (k + 1) (show k + 1 ≤ 8 by omega) (by omega) (Conv.mk (by kernel_rfl)) (.cons_cons _ .slnil)
    · have c1 : (¬ ((k : Int) < (8 : Int))) := (of_decide_eq_false c1r)
      refine Cfg.reg rfl [4] [(0, false, none), (0, false, none), (0, false, none), (0, false, some (.string (beS n 4)))] (Γ' := [(4, [], .string (beS n 4))]) (nd := (fun S => [((-9223372036854775808 : Int) ≤ (4 : Int) ∧ (4 : Int) ≤ 9223372036854775807), (0 ≤ (4 : Int)), (4 ≤ 8 ∧ 8 ≤ 8), (∀ w1, S w1 → (Conv.bytesToString (.slice (some ⟨b, (if 8 = 4 then 0 else 4), none⟩) (8 - 4) (8 - 4))).run Try.prog w1 = .ok (.string (beS n 4)) w1)])) (fun _ => by kernel_rfl) ⟨(by omega), (by omega), (by omega), (fun w1 h => num_str h rfl (by omega) 4 rfl), trivial⟩ ?_
      refine Cfg.ret rfl (rs := [.tmp 4]) rfl [.string (beS n 4)] ⟨by kernel_rfl, trivial⟩ (fun w1 hp => ?_)
      exact ⟨rfl, hp.ext⟩

set_option maxRecDepth 100000 in
theorem wNumber8 (n : Nat) (w : World) (hn : n < 2 ^ 64) :
    Calls Try.prog 45 #[.int .u64 (n : Int), .int .i64 8] w fun e w' => e = .returned (.string (beS n 8)) ∧ Ext [] w w' := by
  refine enter (vs := [.int .u64 (n : Int), .int .i64 8]) [] [] [] Try.func45 rfl (by kernel_rfl) (HP.start w) ?_
  refine Cfg.reg rfl [0, 1] [] (Γ' := [(0, [], .int .u64 (n : Int)), (1, [], .int .i64 8)]) (nd := (fun _ => [])) (fun _ => by kernel_rfl) trivial ?_
  refine Cfg.begL rfl ?_
  refine CfgL.eff (o := _) rfl (by kernel_rfl) (by kernel_rfl) (Eff.alloc (z := (.agg (bv (List.replicate 8 0)))) rfl (by kernel_rfl)) ?_
  rintro b ⟨hb, nb⟩
  refine CfgL.done rfl ?_
  refine Cfg.reg rfl [0, 1, 5, 7] [] (Γ' := [(7, [], .int .i64 0), (5, [], .pointer (some ⟨b, 0, none⟩)), (0, [], .int .u64 (n : Int)), (1, [], .int .i64 8)]) (nd := (fun _ => [])) (fun _ => by kernel_rfl) trivial ?_
  refine Cfg.loop rfl (ι := Nat) (fun (k : Nat) => [(7, [], .int .i64 (k : Int)), (5, [], .pointer (some ⟨b, 0, none⟩)), (0, [], .int .u64 (n : Int)), (1, [], .int .i64 8)]) (fun (k : Nat) => [(b, .cells (bv (nrow n k)) 108 (0, 0))]) (fun (k : Nat) => (k ≤ 8)) (fun (k : Nat) => 8 - k) 0 ?_ (Conv.mk (by kernel_rfl)) (List.Sublist.refl _) ?_
  · exact Nat.zero_le _
  · rintro k hk
    refine Cfg.reg rfl [0, 1, 5, 7, 8] [] (Γ' := [(8, [], .bool (decide ((k : Int) < (8 : Int)))), (7, [], .int .i64 (k : Int)), (5, [], .pointer (some ⟨b, 0, none⟩)), (0, [], .int .u64 (n : Int)), (1, [], .int .i64 8)]) (nd := (fun _ => [])) (fun _ => by kernel_rfl) trivial ?_
    refine Cfg.cond rfl (b := (decide ((k : Int) < (8 : Int)))) (by kernel_rfl) (fun c1r => ?_) (fun c1r => ?_)
    · have c1 : ((k : Int) < (8 : Int)) := (of_decide_eq_true c1r)
      refine Cfg.reg rfl [0, 1, 5, 6, 7] [] (Γ' := [(6, [], .int .i64 (k : Int)), (7, [], .int .i64 (k : Int)), (5, [], .pointer (some ⟨b, 0, none⟩)), (0, [], .int .u64 (n : Int)), (1, [], .int .i64 8)]) (nd := (fun _ => [])) (fun _ => by kernel_rfl) trivial ?_
      refine Cfg.begL rfl ?_
      refine CfgL.pure 8 [] none (Γ' := [(17, [], .pointer (some ⟨b, k, none⟩)), (16, [], .int .u8 (((n : Int) / ((2 ^ ((56 - (8 * (k : Int)))).toNat : Nat) : Int)) % 256)), (15, [], .int .u64 ((n : Int) / ((2 ^ ((56 - (8 * (k : Int)))).toNat : Nat) : Int))), (14, [], .int .i64 (56 - (8 * (k : Int)))), (13, [], .int .i64 (8 * (k : Int))), (12, [], .int .i64 (k : Int)), (11, [], .int .u64 (n : Int)), (10, [], .int .i64 (k : Int)), (6, [], .int .i64 (k : Int)), (7, [], .int .i64 (k : Int)), (5, [], .pointer (some ⟨b, 0, none⟩)), (0, [], .int .u64 (n : Int)), (1, [], .int .i64 8)]) (nd := (fun _ => [((-9223372036854775808 : Int) ≤ (8 * (k : Int)) ∧ (8 * (k : Int)) ≤ 9223372036854775807), ((-9223372036854775808 : Int) ≤ (56 - (8 * (k : Int))) ∧ (56 - (8 * (k : Int))) ≤ 9223372036854775807), (0 ≤ (56 - (8 * (k : Int))) ∧ ((56 - (8 * (k : Int)))).toNat ≤ 64), (0 ≤ (k : Int) ∧ (k : Int) < (8 : Int))])) (by kernel_rfl) (fun _ => by kernel_rfl) ⟨(by omega), (by omega), (by omega), (by omega), trivial⟩ ?_
      refine CfgL.eff (o := _) rfl (by kernel_rfl) (by kernel_rfl) (Eff.store1 (b := b) (off := k) (v := .int .u8 (((n : Int) / ((2 ^ ((56 - (8 * (k : Int)))).toNat : Nat) : Int)) % 256)) rfl (by kernel_rfl) (by kernel_rfl) rfl (by kernel_rfl) 0 (cs := (bv (nrow n k))) (e := 108) (by kernel_rfl) (by rw [bv_size, nrow_len]; omega)) ?_
      rintro ⟨⟩ -
      refine CfgL.done rfl ?_
      refine Conv.cfg (Γ' := [(7, [], .int .i64 (k : Int)), (5, [], .pointer (some ⟨b, 0, none⟩)), (0, [], .int .u64 (n : Int)), (1, [], .int .i64 8)]) (Conv.mk (by kernel_rfl)) ?_
      refine Cfg.reg rfl [0, 1, 5, 7] [] (Γ' := [(7, [], .int .i64 ((k : Int) + 1)), (5, [], .pointer (some ⟨b, 0, none⟩)), (0, [], .int .u64 (n : Int)), (1, [], .int .i64 8)]) (nd := (fun _ => [((-9223372036854775808 : Int) ≤ ((k : Int) + 1) ∧ ((k : Int) + 1) ≤ 9223372036854775807)])) (fun _ => by kernel_rfl) ⟨(by omega), trivial⟩ ?_
      refine Cfg.setO (O' := [(b, .cells (bv (nrow n (k + 1))) 108 (0, 0))]) (congrArg (fun (xq : Array Value) => ([(b, .cells xq 108 (0, 0))] : List (Nat × Obj))) (nrow_step n k (by omega) rfl)) ?_
      refine Cfg.again rfl (k + 1) (show k + 1 ≤ 8 by omega) (by omega) (Conv.mk (by kernel_rfl)) (.cons_cons _ .slnil)
    · have c1 : (¬ ((k : Int) < (8 : Int))) := (of_decide_eq_false c1r)
      refine Cfg.reg rfl [4] [(0, false, none), (0, false, none), (0, false, none), (0, false, some (.string (beS n 8)))] (Γ' := [(4, [], .string (beS n 8))]) (nd := (fun S => [((-9223372036854775808 : Int) ≤ (0 : Int) ∧ (0 : Int) ≤ 9223372036854775807), (0 ≤ (0 : Int)), (0 ≤ 8 ∧ 8 ≤ 8), (∀ w1, S w1 → (Conv.bytesToString (.slice (some ⟨b, (if 8 = 0 then 0 else 0), none⟩) (8 - 0) (8 - 0))).run Try.prog w1 = .ok (.string (beS n 8)) w1)])) (fun _ => by kernel_rfl) ⟨(by omega), (by omega), (by omega), (fun w1 h => num_str h rfl (by omega) 8 rfl), trivial⟩ ?_
      refine Cfg.ret rfl (rs := [.tmp 4]) rfl [.string (beS n 8)] ⟨by kernel_rfl, trivial⟩ (fun w1 hp => ?_)
      exact ⟨rfl, hp.ext⟩

set_option maxRecDepth 100000 in
theorem wWith (s : ByteArray) (la : Option Addr) (cap : Nat) (ss : List ByteArray) (Rl : List (Nat × Obj)) (w : World) (hI : InS Rl la ss.length (fun j => .string (sat ss j))) (hR : Has w Rl) (hn : ss.length ≤ maxLen) (hr : s.size + (cat ss).length ≤ 140737488355328) :
    Calls Try.prog 46 #[.agg #[.string s], .slice la ss.length cap] w fun e w' => e = .returned (.agg #[.string (tx (s.data.toList ++ cat ss))]) ∧ Ext [] w w' := by
  unfold maxLen at hn
  refine enter (vs := [.agg #[.string s], .slice la ss.length cap]) [] Rl [] Try.func46 rfl (by kernel_rfl) (HP.ofHas hR) ?_
  refine Cfg.begL rfl ?_
  refine CfgL.eff (o := _) rfl (by kernel_rfl) (by kernel_rfl) (Eff.box (v := .agg #[.string s]) rfl (by kernel_rfl)) ?_
  rintro o ⟨ho, no⟩
  refine CfgL.eff (o := _) rfl (by kernel_rfl) (by kernel_rfl) (Eff.alloc (z := (.agg #[.string ByteArray.empty])) rfl (by kernel_rfl)) ?_
  rintro rs ⟨hrs, nrs⟩
  refine CfgL.done rfl ?_
  refine Conv.cfg (Γ' := [(4, [], .pointer (some ⟨rs, 0, none⟩)), (2, [], .pointer (some ⟨o, 0, none⟩)), (1, [], .slice la ss.length cap)]) (Conv.mk (by kernel_rfl)) ?_
  refine Cfg.begL rfl ?_
  refine CfgL.eff (o := _) rfl (by kernel_rfl) (by kernel_rfl) (Eff.allocB 5 [(rs, .cells #[.string ByteArray.empty] 52 (0, 0)), (o, .cells #[.string s] 52 (0, 0))] [] rfl rfl (by kernel_rfl)) ?_
  rintro b ⟨hb, nb⟩
  refine CfgL.done rfl ?_
  refine Cfg.begL rfl ?_
  refine CfgL.pure 2 [(0, false, none), (0, false, some (.string s))] none (Γ' := [(9, [], .string s), (8, [], .pointer (some ⟨o, 0, none⟩)), (5, [], .pointer (some ⟨b, 0, none⟩)), (4, [], .pointer (some ⟨rs, 0, none⟩)), (2, [], .pointer (some ⟨o, 0, none⟩)), (1, [], .slice la ss.length cap)]) (nd := (fun S => [(∀ w1, S w1 → w1.cell? ⟨o, 0, none⟩ = some (.string s))])) (by kernel_rfl) (fun _ => by kernel_rfl) ⟨(fun w1 h => h.ocell 1 rfl rfl), trivial⟩ ?_
  refine CfgL.eff (o := _) rfl (by kernel_rfl) (by kernel_rfl) (Eff.callH (vs := [.pointer (some ⟨b, 0, none⟩), .string s]) (fun _ => (.tuple #[.int .i64 (s.size : Int), .nilIface] : Value)) (bl 84 5 b ([]) bd0) (fun B1 => bl 84 5 b (([]) ++ s.data.toList) B1) (fun B1 => BdOk b (([]) ++ s.data.toList) B1) [(rs, .cells #[.string ByteArray.empty] 52 (0, 0)), (o, .cells #[.string s] 52 (0, 0))] [] (by rfl) rfl Try.func44 rfl rfl (by kernel_rfl) (fun w1 h hh hd => bWriteString b ([]) bd0 s w1 (bd0_ok b) hh hd (by simp only [List.length_nil]; omega))) ?_
  rintro B1 kB1
  refine CfgL.done rfl ?_
  refine Conv.cfg (Γ' := [(5, [], .pointer (some ⟨b, 0, none⟩)), (4, [], .pointer (some ⟨rs, 0, none⟩)), (1, [], .slice la ss.length cap)]) (Conv.mk (by kernel_rfl)) ?_
  refine Cfg.reg rfl [4, 5, 11, 12, 13] [] (Γ' := [(13, [], .int .i64 0), (12, [], .int .i64 (ss.length : Int)), (11, [], .slice la ss.length cap), (5, [], .pointer (some ⟨b, 0, none⟩)), (4, [], .pointer (some ⟨rs, 0, none⟩))]) (nd := (fun _ => [])) (fun _ => by kernel_rfl) trivial ?_
  refine Cfg.setO (O' := ([(rs, .cells #[.string ByteArray.empty] 52 (0, 0)), (o, .cells #[.string s] 52 (0, 0))] ++ (bl 84 5 b (s.data.toList ++ cat (ss.take 0)) B1 ++ []))) (congrArg (fun (xq : List UInt8) => (([(rs, .cells #[.string ByteArray.empty] 52 (0, 0)), (o, .cells #[.string s] 52 (0, 0))] ++ (bl 84 5 b xq B1 ++ [])) : List (Nat × Obj))) (by rw [List.take_zero]; simp [cat])) ?_
  refine Cfg.loop rfl (ι := Nat × Bd) (fun (xz : Nat × Bd) => match xz with | (i, B) => [(13, [], .int .i64 (i : Int)), (12, [], .int .i64 (ss.length : Int)), (11, [], .slice la ss.length cap), (5, [], .pointer (some ⟨b, 0, none⟩)), (4, [], .pointer (some ⟨rs, 0, none⟩))]) (fun (xz : Nat × Bd) => match xz with | (i, B) => ([(rs, .cells #[.string ByteArray.empty] 52 (0, 0)), (o, .cells #[.string s] 52 (0, 0))] ++ (bl 84 5 b (s.data.toList ++ cat (ss.take i)) B ++ []))) (fun (xz : Nat × Bd) => match xz with | (i, B) => (i ≤ ss.length) ∧ (BdOk b (s.data.toList ++ cat (ss.take i)) B)) (fun (xz : Nat × Bd) => match xz with | (i, B) => ss.length - i) (0, B1) ?_ (Conv.mk (by kernel_rfl)) (List.Sublist.refl _) ?_
  · exact ⟨Nat.zero_le _, by rw [List.take_zero, show s.data.toList ++ cat [] = [] ++ s.data.toList by simp [cat]]; exact kB1⟩
  · rintro ⟨i, B⟩ ⟨hi, hB⟩
    refine Cfg.reg rfl [4, 5, 11, 12, 13, 14] [] (Γ' := [(14, [], .bool (decide ((i : Int) < (ss.length : Int)))), (13, [], .int .i64 (i : Int)), (12, [], .int .i64 (ss.length : Int)), (11, [], .slice la ss.length cap), (5, [], .pointer (some ⟨b, 0, none⟩)), (4, [], .pointer (some ⟨rs, 0, none⟩))]) (nd := (fun _ => [])) (fun _ => by kernel_rfl) trivial ?_
    refine Cfg.cond rfl (b := (decide ((i : Int) < (ss.length : Int)))) (by kernel_rfl) (fun c1r => ?_) (fun c1r => ?_)
    · have c1 : ((i : Int) < (ss.length : Int)) := (of_decide_eq_true c1r)
      obtain ⟨sb, off, cs, te, fre, rfl, hmem, hcs⟩ := hI (by omega)
      refine Conv.cfg (Γ' := [(14, [], .bool (decide ((i : Int) < (ss.length : Int)))), (13, [], .int .i64 (i : Int)), (12, [], .int .i64 (ss.length : Int)), (11, [], .slice (some ⟨sb, off, none⟩) ss.length cap), (5, [], .pointer (some ⟨b, 0, none⟩)), (4, [], .pointer (some ⟨rs, 0, none⟩))]) (Conv.mk (by kernel_rfl)) ?_
      refine Cfg.reg rfl [4, 5, 7, 11, 12, 13] [(0, false, none), (0, false, some (.string (sat ss i)))] (Γ' := [(7, [], .string (sat ss i)), (13, [], .int .i64 (i : Int)), (12, [], .int .i64 (ss.length : Int)), (11, [], .slice (some ⟨sb, off, none⟩) ss.length cap), (5, [], .pointer (some ⟨b, 0, none⟩)), (4, [], .pointer (some ⟨rs, 0, none⟩))]) (nd := (fun S => [(0 ≤ (i : Int) ∧ (i : Int) < (ss.length : Int)), (∀ w1, S w1 → w1.cell? ⟨sb, (addO off i), none⟩ = some (.string (sat ss i)))])) (fun _ => by kernel_rfl) ⟨(by omega), (fun w1 h => by rw [addO_eq]; exact (cell_cells (h.ro _ hmem)).trans (hcs i (by omega))), trivial⟩ ?_
      refine Cfg.begL rfl ?_
      refine CfgL.pure 1 [] none (Γ' := [(17, [], .string (sat ss i)), (7, [], .string (sat ss i)), (13, [], .int .i64 (i : Int)), (12, [], .int .i64 (ss.length : Int)), (11, [], .slice (some ⟨sb, off, none⟩) ss.length cap), (5, [], .pointer (some ⟨b, 0, none⟩)), (4, [], .pointer (some ⟨rs, 0, none⟩))]) (nd := (fun _ => [])) (by kernel_rfl) (fun _ => by kernel_rfl) trivial ?_
      refine CfgL.eff (o := _) rfl (by kernel_rfl) (by kernel_rfl) (Eff.callH (vs := [.pointer (some ⟨b, 0, none⟩), .string (sat ss i)]) (fun _ => (.tuple #[.int .i64 ((sat ss i).size : Int), .nilIface] : Value)) (bl 84 5 b (s.data.toList ++ cat (ss.take i)) B) (fun B1 => bl 84 5 b ((s.data.toList ++ cat (ss.take i)) ++ (sat ss i).data.toList) B1) (fun B1 => BdOk b ((s.data.toList ++ cat (ss.take i)) ++ (sat ss i).data.toList) B1) [(rs, .cells #[.string ByteArray.empty] 52 (0, 0)), (o, .cells #[.string s] 52 (0, 0))] [] (by rfl) rfl Try.func44 rfl rfl (by kernel_rfl) (fun w1 h hh hd => bWriteString b (s.data.toList ++ cat (ss.take i)) B (sat ss i) w1 hB hh hd (by have := cat_part (ss := ss) (i := i) (by omega); rw [List.length_append, ba_len]; omega))) ?_
      rintro B2 kB2
      refine CfgL.done rfl ?_
      refine Conv.cfg (Γ' := [(13, [], .int .i64 (i : Int)), (12, [], .int .i64 (ss.length : Int)), (11, [], .slice (some ⟨sb, off, none⟩) ss.length cap), (5, [], .pointer (some ⟨b, 0, none⟩)), (4, [], .pointer (some ⟨rs, 0, none⟩))]) (Conv.mk (by kernel_rfl)) ?_
      refine Cfg.reg rfl [4, 5, 11, 12, 13] [] (Γ' := [(13, [], .int .i64 ((i : Int) + 1)), (12, [], .int .i64 (ss.length : Int)), (11, [], .slice (some ⟨sb, off, none⟩) ss.length cap), (5, [], .pointer (some ⟨b, 0, none⟩)), (4, [], .pointer (some ⟨rs, 0, none⟩))]) (nd := (fun _ => [((-9223372036854775808 : Int) ≤ ((i : Int) + 1) ∧ ((i : Int) + 1) ≤ 9223372036854775807)])) (fun _ => by kernel_rfl) ⟨(by omega), trivial⟩ ?_
      have hcs2 : (s.data.toList ++ cat (ss.take i)) ++ (sat ss i).data.toList = (s.data.toList ++ cat (ss.take (i + 1))) := by rw [cat_succ (by omega), List.append_assoc]
      refine Cfg.setO (O' := ([(rs, .cells #[.string ByteArray.empty] 52 (0, 0)), (o, .cells #[.string s] 52 (0, 0))] ++ (bl 84 5 b (s.data.toList ++ cat (ss.take (i + 1))) B2 ++ []))) (congrArg (fun (xq : List UInt8) => (([(rs, .cells #[.string ByteArray.empty] 52 (0, 0)), (o, .cells #[.string s] 52 (0, 0))] ++ (bl 84 5 b xq B2 ++ [])) : List (Nat × Obj))) (hcs2)) ?_
      refine Cfg.again rfl (i + 1, B2) ⟨by omega, hcs2 ▸ kB2⟩ (by show ss.length - (i + 1) < ss.length - i; omega) (Conv.mk (by kernel_rfl)) (.cons_cons _ (.cons_cons _ (List.Sublist.refl _)))
    · have c1 : (¬ ((i : Int) < (ss.length : Int))) := (of_decide_eq_false c1r)
      obtain rfl : i = ss.length := by omega
      refine Cfg.setO (O' := ([(rs, .cells #[.string ByteArray.empty] 52 (0, 0)), (o, .cells #[.string s] 52 (0, 0))] ++ (bl 84 5 b (s.data.toList ++ cat ss) B ++ []))) (congrArg (fun (xq : List UInt8) => (([(rs, .cells #[.string ByteArray.empty] 52 (0, 0)), (o, .cells #[.string s] 52 (0, 0))] ++ (bl 84 5 b xq B ++ [])) : List (Nat × Obj))) (by rw [List.take_length])) ?_
      rw [List.take_length] at hB
      refine Conv.cfg (Γ' := [(12, [], .int .i64 (ss.length : Int)), (11, [], .slice la ss.length cap), (5, [], .pointer (some ⟨b, 0, none⟩)), (4, [], .pointer (some ⟨rs, 0, none⟩))]) (Conv.mk (by kernel_rfl)) ?_
      refine Cfg.begL rfl ?_
      refine CfgL.eff (o := _) rfl (by kernel_rfl) (by kernel_rfl) (Eff.callH (vs := [.pointer (some ⟨b, 0, none⟩)]) (fun _ : Unit => (.string (tx (s.data.toList ++ cat ss)) : Value)) (bl 84 5 b (s.data.toList ++ cat ss) B) (fun _ => []) (fun _ => True) [(rs, .cells #[.string ByteArray.empty] 52 (0, 0)), (o, .cells #[.string s] 52 (0, 0))] [] (by rfl) rfl Try.func47 rfl rfl (by kernel_rfl) (fun w1 h hh hd => bString b (s.data.toList ++ cat ss) B w1 hB hh hd (by rw [List.length_append, ba_len]; omega))) ?_
      rintro ⟨⟩ -
      refine CfgL.pure 1 [(0, false, some (.agg #[.string (tx (s.data.toList ++ cat ss))]))] none (Γ' := [(21, [], .agg #[.string (tx (s.data.toList ++ cat ss))]), (20, [], .string (tx (s.data.toList ++ cat ss))), (12, [], .int .i64 (ss.length : Int)), (11, [], .slice la ss.length cap), (5, [], .pointer (some ⟨b, 0, none⟩)), (4, [], .pointer (some ⟨rs, 0, none⟩))]) (nd := (fun S => [(∀ w1, S w1 → (Instr.build 52 #[(0, .string (tx (s.data.toList ++ cat ss)))]).run Try.prog w1 = .ok (.agg #[.string (tx (s.data.toList ++ cat ss))]) w1)])) (by kernel_rfl) (fun _ => by kernel_rfl) ⟨(fun _ _ => by kernel_rfl), trivial⟩ ?_
      refine CfgL.eff (o := _) rfl (by kernel_rfl) (by kernel_rfl) (Eff.storeN (b := rs) (off := 0) (vs := #[.string (tx (s.data.toList ++ cat ss))]) (n := 1) rfl (by kernel_rfl) (by kernel_rfl) (by kernel_rfl) rfl (by simp [one]) 0 (cs := #[.string ByteArray.empty]) (e := 52) (by kernel_rfl) (by simp)) ?_
      rintro ⟨⟩ -
      refine CfgL.setO (O' := [(rs, .cells #[.string (tx (s.data.toList ++ cat ss))] 52 (0, 0)), (o, .cells #[.string s] 52 (0, 0))]) (congrArg (fun (xq : Array Value) => ([(rs, .cells xq 52 (0, 0)), (o, .cells #[.string s] 52 (0, 0))] : List (Nat × Obj))) (rfl)) ?_
      refine CfgL.done rfl ?_
      refine Conv.cfg (Γ' := [(4, [], .pointer (some ⟨rs, 0, none⟩))]) (Conv.mk (by kernel_rfl)) ?_
      refine Cfg.ret rfl (rs := [.cell 4 52]) rfl [.agg #[.string (tx (s.data.toList ++ cat ss))]] ⟨⟨_, by kernel_rfl, (fun w1 h => h.oload 0 rfl Try.underlying52 rfl (n := 1) (by kernel_rfl) rfl)⟩, trivial⟩ (fun w1 hp => ?_)
      exact ⟨rfl, hp.ext⟩

end Go.Proofs.Ytejgpniaoccpoaa
