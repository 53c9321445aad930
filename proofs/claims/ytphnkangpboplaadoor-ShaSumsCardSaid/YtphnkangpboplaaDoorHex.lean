/- sha.Hex gives the text of a digest. Condition: a digest is 32 bytes. -/
import Derived.Test.YtphnkangpboplaaDoorRows
import Derived.Test.YtphnkangpboplaaDoorK9
namespace Go.Proofs.YtphnkangpboplaaDoor
open K
set_option linter.unusedVariables false

/-- A digit of base sixteen, as the text has it. -/
def digT : ByteArray := ⟨#[48, 49, 50, 51, 52, 53, 54, 55, 56, 57, 97, 98, 99, 100, 101, 102]⟩
def hexD (n : Nat) : UInt8 := digT.data.toList.getD n 0
def hexL (l : List UInt8) : List UInt8 := l.flatMap fun b => [hexD (b.toNat / 16), hexD (b.toNat % 16)]
def hexS (l : List UInt8) : ByteArray := ⟨(hexL l).toArray⟩
def hexRow (l : List UInt8) (k : Nat) : List UInt8 := hexL (l.take k) ++ List.replicate (64 - 2 * k) 0

theorem hexL_len (l : List UInt8) : (hexL l).length = 2 * l.length := by
  induction l with
  | nil => rfl
  | cons x l ih => simp only [hexL, List.flatMap_cons, List.length_append, List.length_cons, List.length_nil] at *; omega
theorem hexRow_len {l : List UInt8} (hl : l.length = 32) {k : Nat} (hk : k ≤ 32) : (hexRow l k).length = 64 := by
  simp [hexRow, hexL_len]; omega
theorem hexRow_end {l : List UInt8} (hl : l.length = 32) : hexRow l 32 = hexL l := by
  simp [hexRow, List.take_of_length_le (show l.length ≤ 32 by omega)]
theorem hexD_int (n : Nat) : sbyte digT (n : Int) = ((hexD n).toNat : Int) := rfl
theorem byte_lt (b : UInt8) : b.toNat < 256 := UInt8.toNat_lt b
theorem set_two (A : List UInt8) (n : Nat) (x y : UInt8) (hn : 2 ≤ n) : ((A ++ List.replicate n 0).set A.length x).set (A.length + 1) y = A ++ [x, y] ++ List.replicate (n - 2) 0 := by
  obtain ⟨m, rfl⟩ : ∃ m, n = m + 2 := ⟨n - 2, by omega⟩
  simp [List.replicate_succ]
theorem u8_back (b : UInt8) : UInt8.ofNat ((b.toNat : Int)).toNat = b := by simp
theorem hexRow_step {l : List UInt8} (hl : l.length = 32) {k : Nat} (hk : k < 32) {x y : Int} (hx : x = ((hexD ((l.getD k 0).toNat / 16)).toNat : Int)) (hy : y = ((hexD ((l.getD k 0).toNat % 16)).toNat : Int)) :
    ((bv (hexRow l k)).setIfInBounds (2 * k) (.int .u8 x)).setIfInBounds (2 * k + 1) (.int .u8 y) = bv (hexRow l (k + 1)) := by
  subst hx hy
  have b1 := byte_lt (hexD ((l.getD k 0).toNat / 16))
  have b2 := byte_lt (hexD ((l.getD k 0).toNat % 16))
  rw [bv_set (by omega) (by omega), bv_set (by omega) (by omega), u8_back, u8_back]
  congr 1
  have hlen : (hexL (l.take k)).length = 2 * k := by rw [hexL_len]; simp; omega
  have ht : l.take (k + 1) = l.take k ++ [l.getD k 0] := by
    rw [List.take_succ_eq_append_getElem (by omega)]; simp [List.getElem?_eq_getElem (show k < l.length by omega)]
  have := set_two (hexL (l.take k)) (64 - 2 * k) (hexD ((l.getD k 0).toNat / 16)) (hexD ((l.getD k 0).toNat % 16)) (by omega)
  rw [hlen] at this
  unfold hexRow
  rw [this, ht]
  simp only [hexL, List.flatMap_append, List.flatMap_cons, List.flatMap_nil, List.append_nil]
  rw [show 64 - 2 * k - 2 = 64 - 2 * (k + 1) by omega]
theorem and15 (x : Nat) : x &&& 15 = x % 16 := Nat.and_two_pow_sub_one_eq_mod x 4
theorem hex_str {P : Program} {l : List UInt8} {w0 w : World} {M : List Nat} {R O : List (Nat × Obj)} {b k : Nat} {t : TypeId} (hl : l.length = 32) (hk : k = 32) (h : HP w0 M R O w) (ho : O[0]? = some (b, .cells (bv (hexRow l k)) t (0, 0))) :
    (Conv.bytesToString (.slice (some ⟨b, 0, none⟩) 64 64)).run P w = .ok (.string (hexS l)) w := by
  subst hk
  have hr := h.ostr (P := P) (c := 64) 0 ho (hexRow_len hl (by omega))
  rw [hexRow_end hl] at hr; exact hr

set_option maxRecDepth 100000 in
theorem shaHex (l : List UInt8) (w : World) (hl : l.length = 32) :
    Calls Tryd.prog 9 #[.agg (bv l)] w fun e w' => e = .returned (.string (hexS l)) ∧ Ext [] w w' := by
  refine enter (vs := [.agg (bv l)]) [] [] [] Tryd.func9 rfl (by kernel_rfl) (HP.start w) ?_
  refine Cfg.begL rfl ?_
  refine CfgL.eff (o := _) rfl (by kernel_rfl) (by kernel_rfl) (Eff.box (v := .agg (bv l)) rfl (by kernel_rfl)) ?_
  rintro d ⟨hd, nd⟩
  refine CfgL.pure 1 [] (some [1]) (Γ' := [(1, [], .pointer (some ⟨d, 0, none⟩))]) (nd := (fun _ => [])) (by kernel_rfl) (fun _ => by kernel_rfl) trivial ?_
  refine CfgL.done rfl ?_
  refine Cfg.begL rfl ?_
  refine CfgL.eff (o := _) rfl (by kernel_rfl) (by kernel_rfl) (Eff.alloc (z := (.agg (bv (List.replicate 64 0)))) rfl (by kernel_rfl)) ?_
  rintro t ⟨ht, nt⟩
  refine CfgL.done rfl ?_
  refine Cfg.reg rfl [3, 6, 7] [(0, false, some (.agg (bv l)))] (Γ' := [(7, [], .int .i64 0), (6, [], .agg (bv l)), (3, [], .pointer (some ⟨t, 0, none⟩))]) (nd := (fun S => [(∀ w1, S w1 → (loadVar 25 ⟨d, 0, none⟩).run Tryd.prog w1 = .ok (.agg (bv l)) w1)])) (fun _ => by kernel_rfl) ⟨(fun w1 h => h.oload 1 rfl Tryd.underlying25 rfl (n := 32) (by kernel_rfl) ((bv_size l).trans hl)), trivial⟩ ?_
  refine Cfg.loop rfl (ι := Nat) (fun (k : Nat) => [(7, [], .int .i64 (k : Int)), (6, [], .agg (bv l)), (3, [], .pointer (some ⟨t, 0, none⟩))]) (fun (k : Nat) => [(t, .cells (bv (hexRow l k)) 45 (0, 0)), (d, .cells (bv l) 25 (0, 0))]) (fun (k : Nat) => (k ≤ 32)) (fun (k : Nat) => 32 - k) 0 ?_ (Conv.mk (by kernel_rfl)) (List.Sublist.refl _) ?_
  · exact Nat.zero_le _
  · rintro k hk
    refine Cfg.reg rfl [3, 6, 7, 8] [] (Γ' := [(8, [], .bool (decide ((k : Int) < (32 : Int)))), (7, [], .int .i64 (k : Int)), (6, [], .agg (bv l)), (3, [], .pointer (some ⟨t, 0, none⟩))]) (nd := (fun _ => [])) (fun _ => by kernel_rfl) trivial ?_
    refine Cfg.cond rfl (b := (decide ((k : Int) < (32 : Int)))) (by kernel_rfl) (fun c1r => ?_) (fun c1r => ?_)
    · have c1 : ((k : Int) < (32 : Int)) := (of_decide_eq_true c1r)
      refine Cfg.reg rfl [3, 4, 5, 6, 7] [(0, false, none), (0, false, some (.int .u8 ((l.getD k 0).toNat : Int)))] (Γ' := [(5, [], .int .u8 ((l.getD k 0).toNat : Int)), (4, [], .int .i64 (k : Int)), (7, [], .int .i64 (k : Int)), (6, [], .agg (bv l)), (3, [], .pointer (some ⟨t, 0, none⟩))]) (nd := (fun _ => [(0 ≤ (k : Int) ∧ (k : Int) < (32 : Int)), (((bv l))[k]? = some (.int .u8 ((l.getD k 0).toNat : Int)))])) (fun _ => by kernel_rfl) ⟨(by have hb := byte_lt (l.getD k 0); have h15 := and15 (l.getD k 0).toNat; omega), (bv_get hl (by omega)), trivial⟩ ?_
      refine Cfg.begL rfl ?_
      refine CfgL.pure 6 [] none (Γ' := [(16, [], .pointer (some ⟨t, (2 * k), none⟩)), (15, [], .int .u8 (sbyte ⟨#[48, 49, 50, 51, 52, 53, 54, 55, 56, 57, 97, 98, 99, 100, 101, 102]⟩ (((l.getD k 0).toNat : Int) / 16))), (14, [], .int .u8 (((l.getD k 0).toNat : Int) / 16)), (13, [], .int .u8 ((l.getD k 0).toNat : Int)), (12, [], .int .i64 (2 * (k : Int))), (11, [], .int .i64 (k : Int)), (5, [], .int .u8 ((l.getD k 0).toNat : Int)), (4, [], .int .i64 (k : Int)), (7, [], .int .i64 (k : Int)), (6, [], .agg (bv l)), (3, [], .pointer (some ⟨t, 0, none⟩))]) (nd := (fun _ => [((-9223372036854775808 : Int) ≤ (2 * (k : Int)) ∧ (2 * (k : Int)) ≤ 9223372036854775807), (0 ≤ (4 : Int) ∧ 4 ≤ 8), (0 ≤ (((l.getD k 0).toNat : Int) / 16) ∧ (((l.getD k 0).toNat : Int) / 16) < (16 : Int)), (0 ≤ (2 * (k : Int)) ∧ (2 * (k : Int)) < (64 : Int))])) (by kernel_rfl) (fun _ => by kernel_rfl) ⟨(by have hb := byte_lt (l.getD k 0); have h15 := and15 (l.getD k 0).toNat; omega), (by have hb := byte_lt (l.getD k 0); have h15 := and15 (l.getD k 0).toNat; omega), (by have hb := byte_lt (l.getD k 0); have h15 := and15 (l.getD k 0).toNat; omega), (by have hb := byte_lt (l.getD k 0); have h15 := and15 (l.getD k 0).toNat; omega), trivial⟩ ?_
      refine CfgL.eff (o := _) rfl (by kernel_rfl) (by kernel_rfl) (Eff.store1 (b := t) (off := (2 * k)) (v := .int .u8 (sbyte ⟨#[48, 49, 50, 51, 52, 53, 54, 55, 56, 57, 97, 98, 99, 100, 101, 102]⟩ (((l.getD k 0).toNat : Int) / 16))) rfl (by kernel_rfl) (by kernel_rfl) rfl (by kernel_rfl) 0 (cs := (bv (hexRow l k))) (e := 45) (by kernel_rfl) (by simp [bv_size, hexRow_len hl (show k ≤ 32 by omega)]; omega)) ?_
      rintro ⟨⟩ -
      refine CfgL.done rfl ?_
      refine Conv.cfg (Γ' := [(5, [], .int .u8 ((l.getD k 0).toNat : Int)), (4, [], .int .i64 (k : Int)), (7, [], .int .i64 (k : Int)), (6, [], .agg (bv l)), (3, [], .pointer (some ⟨t, 0, none⟩))]) (Conv.mk (by kernel_rfl)) ?_
      refine Cfg.begL rfl ?_
      refine CfgL.pure 7 [] none (Γ' := [(23, [], .pointer (some ⟨t, ((2 * k) + 1), none⟩)), (22, [], .int .u8 (sbyte ⟨#[48, 49, 50, 51, 52, 53, 54, 55, 56, 57, 97, 98, 99, 100, 101, 102]⟩ ((((l.getD k 0).toNat) &&& 15 : Nat) : Int))), (21, [], .int .u8 ((((l.getD k 0).toNat) &&& 15 : Nat) : Int)), (20, [], .int .u8 ((l.getD k 0).toNat : Int)), (19, [], .int .i64 ((2 * (k : Int)) + 1)), (18, [], .int .i64 (2 * (k : Int))), (17, [], .int .i64 (k : Int)), (5, [], .int .u8 ((l.getD k 0).toNat : Int)), (4, [], .int .i64 (k : Int)), (7, [], .int .i64 (k : Int)), (6, [], .agg (bv l)), (3, [], .pointer (some ⟨t, 0, none⟩))]) (nd := (fun _ => [((-9223372036854775808 : Int) ≤ (2 * (k : Int)) ∧ (2 * (k : Int)) ≤ 9223372036854775807), ((-9223372036854775808 : Int) ≤ ((2 * (k : Int)) + 1) ∧ ((2 * (k : Int)) + 1) ≤ 9223372036854775807), ((0 ≤ ((l.getD k 0).toNat : Int) ∧ ((l.getD k 0).toNat : Int) ≤ 255) ∧ 0 ≤ (15 : Int) ∧ (15 : Int) ≤ 255), (0 ≤ ((((l.getD k 0).toNat) &&& 15 : Nat) : Int) ∧ ((((l.getD k 0).toNat) &&& 15 : Nat) : Int) < (16 : Int)), (0 ≤ ((2 * (k : Int)) + 1) ∧ ((2 * (k : Int)) + 1) < (64 : Int))])) (by kernel_rfl) (fun _ => by kernel_rfl) ⟨(by have hb := byte_lt (l.getD k 0); have h15 := and15 (l.getD k 0).toNat; omega), (by have hb := byte_lt (l.getD k 0); have h15 := and15 (l.getD k 0).toNat; omega), (by have hb := byte_lt (l.getD k 0); have h15 := and15 (l.getD k 0).toNat; omega), (by have hb := byte_lt (l.getD k 0); have h15 := and15 (l.getD k 0).toNat; omega), (by have hb := byte_lt (l.getD k 0); have h15 := and15 (l.getD k 0).toNat; omega), trivial⟩ ?_
      refine CfgL.eff (o := _) rfl (by kernel_rfl) (by kernel_rfl) (Eff.store1 (b := t) (off := ((2 * k) + 1)) (v := .int .u8 (sbyte ⟨#[48, 49, 50, 51, 52, 53, 54, 55, 56, 57, 97, 98, 99, 100, 101, 102]⟩ ((((l.getD k 0).toNat) &&& 15 : Nat) : Int))) rfl (by kernel_rfl) (by kernel_rfl) rfl (by kernel_rfl) 0 (cs := ((bv (hexRow l k)).setIfInBounds (2 * k) (.int .u8 (sbyte ⟨#[48, 49, 50, 51, 52, 53, 54, 55, 56, 57, 97, 98, 99, 100, 101, 102]⟩ (((l.getD k 0).toNat : Int) / 16))))) (e := 45) (by kernel_rfl) (by simp [bv_size, hexRow_len hl (show k ≤ 32 by omega)]; omega)) ?_
      rintro ⟨⟩ -
      refine CfgL.done rfl ?_
      refine Conv.cfg (Γ' := [(7, [], .int .i64 (k : Int)), (6, [], .agg (bv l)), (3, [], .pointer (some ⟨t, 0, none⟩))]) (Conv.mk (by kernel_rfl)) ?_
      refine Cfg.reg rfl [3, 6, 7] [] (Γ' := [(7, [], .int .i64 ((k : Int) + 1)), (6, [], .agg (bv l)), (3, [], .pointer (some ⟨t, 0, none⟩))]) (nd := (fun _ => [((-9223372036854775808 : Int) ≤ ((k : Int) + 1) ∧ ((k : Int) + 1) ≤ 9223372036854775807)])) (fun _ => by kernel_rfl) ⟨(by have hb := byte_lt (l.getD k 0); have h15 := and15 (l.getD k 0).toNat; omega), trivial⟩ ?_
      refine Cfg.setO (O' := [(t, .cells (bv (hexRow l (k + 1))) 45 (0, 0)), (d, .cells (bv l) 25 (0, 0))]) (congrArg (fun (xq : Array Value) => ([(t, .cells xq 45 (0, 0)), (d, .cells (bv l) 25 (0, 0))] : List (Nat × Obj))) (hexRow_step hl (by omega) rfl (by rw [and15]; rfl))) ?_
      refine Cfg.again rfl (k + 1) (show k + 1 ≤ 32 by omega) (by omega) (Conv.mk (by kernel_rfl)) (.cons_cons _ (.cons_cons _ .slnil))
    · have c1 : (¬ ((k : Int) < (32 : Int))) := (of_decide_eq_false c1r)
      refine Cfg.reg rfl [2] [(0, false, none), (0, false, some (.string (hexS l)))] (Γ' := [(2, [], .string (hexS l))]) (nd := (fun S => [(64 ≤ 64), (∀ w1, S w1 → (Conv.bytesToString (.slice (some ⟨t, 0, none⟩) 64 64)).run Tryd.prog w1 = .ok (.string (hexS l)) w1)])) (fun _ => by kernel_rfl) ⟨(by have hb := byte_lt (l.getD k 0); have h15 := and15 (l.getD k 0).toNat; omega), (fun w1 h => hex_str hl (by omega) h rfl), trivial⟩ ?_
      refine Cfg.ret rfl (rs := [.tmp 2]) rfl [.string (hexS l)] ⟨by kernel_rfl, trivial⟩ (fun w1 hp => ?_)
      exact ⟨rfl, hp.ext⟩

end Go.Proofs.YtphnkangpboplaaDoor
