/- The reference: nibble, Hex; files.Named. Conditions: a digest is 32 bytes, a text no longer than any can be. -/
import Derived.Test.YtmkefcjphdaoiaaDoorName3
namespace Go.Proofs.YtmkefcjphdaoiaaDoor
open K
set_option linter.unusedVariables false

/-- A digit of base sixteen; 16: none. -/
def nib (c : UInt8) : Int := if 48 ≤ c.toNat ∧ c.toNat ≤ 57 then ((c.toNat : Int) - 48) % 256 else if 97 ≤ c.toNat ∧ c.toNat ≤ 102 then (((c.toNat : Int) - 97) % 256 + 10) % 256 else 16
theorem nib_a (c : UInt8) (h1 : 48 ≤ c.toNat) (h2 : c.toNat ≤ 57) : nib c = ((c.toNat : Int) - 48) % 256 := by unfold nib; rw [if_pos ⟨h1, h2⟩]
theorem nib_b (c : UInt8) (h1 : 97 ≤ c.toNat) (h2 : c.toNat ≤ 102) : nib c = (((c.toNat : Int) - 97) % 256 + 10) % 256 := by unfold nib; rw [if_neg (by omega), if_pos ⟨h1, h2⟩]
theorem nib_c (c : UInt8) (h1 : ¬ (48 ≤ c.toNat ∧ c.toNat ≤ 57)) (h2 : ¬ (97 ≤ c.toNat ∧ c.toNat ≤ 102)) : nib c = 16 := by unfold nib; rw [if_neg h1, if_neg h2]
theorem nib_yes {c : UInt8} (h : digB c = true) : nib c = digV c := by
  have h := of_decide_eq_true h
  unfold nib digV
  by_cases h1 : 48 ≤ c.toNat ∧ c.toNat ≤ 57
  · rw [if_pos h1, if_pos h1]
  · rw [if_neg h1, if_neg h1, if_pos (by omega), if_pos (by omega)]
theorem nib_no {c : UInt8} (h : digB c = false) : nib c = 16 := by
  have h := of_decide_eq_false h
  unfold nib
  rw [if_neg (by omega), if_neg (by omega)]
theorem nib_iff (c : UInt8) : digB c = decide (nib c ≤ 15) := by
  cases h : digB c with
  | true => rw [nib_yes h]; exact (decide_eq_true (digV_bd c).2).symm
  | false => rw [nib_no h]; rfl
theorem nib_bd (c : UInt8) : 0 ≤ nib c ∧ nib c ≤ 16 := by
  cases h : digB c with
  | true => rw [nib_yes h]; have := digV_bd c; omega
  | false => rw [nib_no h]; omega

def okNm (s : ByteArray) (k : Nat) : Bool := decide (33 ≤ sbyte s k ∧ sbyte s k ≤ 126)
/-- Is a text a file's name? -/
def nmB (s : ByteArray) : Bool := decide (1 ≤ s.size ∧ s.size ≤ 72) && (List.range s.size).all (okNm s)

theorem ba_app (a b : List UInt8) : (⟨a.toArray⟩ : ByteArray) ++ ⟨b.toArray⟩ = ⟨(a ++ b).toArray⟩ := by
  apply ByteArray.ext
  simp
theorem dig_ext (n : Nat) (h : n < 16) : ByteArray.extract ⟨#[48, 49, 50, 51, 52, 53, 54, 55, 56, 57, 97, 98, 99, 100, 101, 102]⟩ n (n + 1) = ⟨[hexD n].toArray⟩ := by
  exact (by decide +kernel : ∀ m : Fin 16, ByteArray.extract ⟨#[48, 49, 50, 51, 52, 53, 54, 55, 56, 57, 97, 98, 99, 100, 101, 102]⟩ m.val (m.val + 1) = ⟨[hexD m.val].toArray⟩) ⟨n, h⟩
theorem hexS_step {l : List UInt8} (hl : l.length = 32) {k : Nat} (hk : k < 32) :
    (hexS (l.take k) ++ ByteArray.extract ⟨#[48, 49, 50, 51, 52, 53, 54, 55, 56, 57, 97, 98, 99, 100, 101, 102]⟩ ((l.getD k 0).toNat / 16) (((l.getD k 0).toNat / 16 + 1) % 256)) ++
      ByteArray.extract ⟨#[48, 49, 50, 51, 52, 53, 54, 55, 56, 57, 97, 98, 99, 100, 101, 102]⟩ ((l.getD k 0).toNat % 16) (((l.getD k 0).toNat % 16 + 1) % 256) = hexS (l.take (k + 1)) := by
  have hb := byte_lt (l.getD k 0)
  have ht : l.take (k + 1) = l.take k ++ [l.getD k 0] := by
    rw [List.take_succ_eq_append_getElem (by omega)]; simp [List.getElem?_eq_getElem (show k < l.length by omega)]
  rw [show ((l.getD k 0).toNat / 16 + 1) % 256 = (l.getD k 0).toNat / 16 + 1 by omega, show ((l.getD k 0).toNat % 16 + 1) % 256 = (l.getD k 0).toNat % 16 + 1 by omega]
  rw [dig_ext _ (by omega), dig_ext _ (by omega), ht]
  unfold hexS
  rw [ba_app, ba_app]
  congr 2
  simp [hexL]

theorem hexT_size {l : List UInt8} (hl : l.length = 32) {k : Nat} (hk : k ≤ 32) : (hexS (l.take k)).size = 2 * k := by
  simp [hexS, ByteArray.size, hexL_len]; omega

set_option maxRecDepth 100000 in
theorem refHex (l : List UInt8) (w : World) (hl : l.length = 32) :
    Calls Tryd.prog 10 #[.agg (bv l)] w fun e w' => e = .returned (.string (hexS l)) ∧ Ext [] w w' := by
  refine enter (vs := [.agg (bv l)]) [] [] [] Tryd.func10 rfl (by kernel_rfl) (HP.start w) ?_
  refine Cfg.begL rfl ?_
  refine CfgL.eff (o := _) rfl (by kernel_rfl) (by kernel_rfl) (Eff.box (v := .agg (bv l)) rfl (by kernel_rfl)) ?_
  rintro d ⟨hd, nd⟩
  refine CfgL.pure 1 [] (some [1]) (Γ' := [(1, [], .pointer (some ⟨d, 0, none⟩))]) (nd := (fun _ => [])) (by kernel_rfl) (fun _ => by kernel_rfl) trivial ?_
  refine CfgL.done rfl ?_
  refine Cfg.reg rfl [1, 3] [] (Γ' := [(3, [], .string ⟨#[]⟩), (1, [], .pointer (some ⟨d, 0, none⟩))]) (nd := (fun _ => [])) (fun _ => by kernel_rfl) trivial ?_
  refine Cfg.reg rfl [1, 3, 4] [] (Γ' := [(4, [], .int .i64 0), (3, [], .string ⟨#[]⟩), (1, [], .pointer (some ⟨d, 0, none⟩))]) (nd := (fun _ => [])) (fun _ => by kernel_rfl) trivial ?_
  refine Cfg.loop rfl (ι := Nat) (fun (k : Nat) => [(4, [], .int .i64 (k : Int)), (3, [], .string (hexS (l.take k))), (1, [], .pointer (some ⟨d, 0, none⟩))]) (fun (k : Nat) => [(d, .cells (bv l) 25 (0, 0))]) (fun (k : Nat) => (k ≤ 32)) (fun (k : Nat) => 32 - k) 0 ?_ (Conv.mk (by kernel_rfl)) (.cons_cons _ .slnil) ?_
  · exact Nat.zero_le _
  · rintro k hk
    refine Cfg.reg rfl [1, 3, 4, 6] [] (Γ' := [(6, [], .bool (decide ((k : Int) < (32 : Int)))), (4, [], .int .i64 (k : Int)), (3, [], .string (hexS (l.take k))), (1, [], .pointer (some ⟨d, 0, none⟩))]) (nd := (fun _ => [])) (fun _ => by kernel_rfl) trivial ?_
    refine Cfg.cond rfl (b := (decide ((k : Int) < (32 : Int)))) (by kernel_rfl) (fun c1r => ?_) (fun c1r => ?_)
    · have c1 : ((k : Int) < (32 : Int)) := (of_decide_eq_true c1r)
      refine Cfg.regD rfl (by kernel_rfl) [1, 3, 4] [(0, false, none), (0, false, none), (0, false, none), (0, false, some (.int .u8 ((l.getD k 0).toNat : Int))), (0, false, none), (0, false, none), (0, false, none), (0, false, some (.int .u8 ((l.getD k 0).toNat : Int))), (0, false, none), (0, false, none), (0, false, none), (0, false, none), (0, false, none), (0, false, none), (0, false, some (.int .u8 ((l.getD k 0).toNat : Int))), (0, false, none), (0, false, none), (0, false, none), (0, false, some (.int .u8 ((l.getD k 0).toNat : Int)))] (Γ' := [(3, [], .string (((hexS (l.take k)) ++ ((⟨#[48, 49, 50, 51, 52, 53, 54, 55, 56, 57, 97, 98, 99, 100, 101, 102]⟩ : ByteArray).extract ((((l.getD k 0).toNat) / 16)) ((((((l.getD k 0).toNat) / 16) + 1) % 256)))) ++ ((⟨#[48, 49, 50, 51, 52, 53, 54, 55, 56, 57, 97, 98, 99, 100, 101, 102]⟩ : ByteArray).extract ((((l.getD k 0).toNat) % 16)) ((((((l.getD k 0).toNat) % 16) + 1) % 256))))), (4, [], .int .i64 (k : Int)), (1, [], .pointer (some ⟨d, 0, none⟩))]) (nd := (fun S => [(0 ≤ (k : Int) ∧ (k : Int) < (32 : Int)), (∀ w1, S w1 → w1.cell? ⟨d, k, none⟩ = some (.int .u8 ((l.getD k 0).toNat : Int))), (0 ≤ ((l.getD k 0).toNat : Int) ∧ ((l.getD k 0).toNat : Int) ≤ 255 ∧ 0 < (16 : Int)), (0 ≤ (k : Int) ∧ (k : Int) < (32 : Int)), (∀ w1, S w1 → w1.cell? ⟨d, k, none⟩ = some (.int .u8 ((l.getD k 0).toNat : Int))), (0 ≤ ((l.getD k 0).toNat : Int) ∧ ((l.getD k 0).toNat : Int) ≤ 255 ∧ 0 < (16 : Int)), (0 ≤ (((l.getD k 0).toNat : Int) / 16)), (0 ≤ (((((l.getD k 0).toNat : Int) / 16) + 1) % 256)), ((((l.getD k 0).toNat) / 16) ≤ (((((l.getD k 0).toNat) / 16) + 1) % 256) ∧ (((((l.getD k 0).toNat) / 16) + 1) % 256) ≤ 16), ((hexS (l.take k)).size + ((⟨#[48, 49, 50, 51, 52, 53, 54, 55, 56, 57, 97, 98, 99, 100, 101, 102]⟩ : ByteArray).extract ((((l.getD k 0).toNat) / 16)) ((((((l.getD k 0).toNat) / 16) + 1) % 256))).size ≤ 9223372036854775807), (0 ≤ (k : Int) ∧ (k : Int) < (32 : Int)), (∀ w1, S w1 → w1.cell? ⟨d, k, none⟩ = some (.int .u8 ((l.getD k 0).toNat : Int))), (0 ≤ ((l.getD k 0).toNat : Int) ∧ 0 < (16 : Int)), (0 ≤ (k : Int) ∧ (k : Int) < (32 : Int)), (∀ w1, S w1 → w1.cell? ⟨d, k, none⟩ = some (.int .u8 ((l.getD k 0).toNat : Int))), (0 ≤ ((l.getD k 0).toNat : Int) ∧ 0 < (16 : Int)), (0 ≤ (((l.getD k 0).toNat : Int) % 16)), (0 ≤ (((((l.getD k 0).toNat : Int) % 16) + 1) % 256)), ((((l.getD k 0).toNat) % 16) ≤ (((((l.getD k 0).toNat) % 16) + 1) % 256) ∧ (((((l.getD k 0).toNat) % 16) + 1) % 256) ≤ 16), (((hexS (l.take k)) ++ ((⟨#[48, 49, 50, 51, 52, 53, 54, 55, 56, 57, 97, 98, 99, 100, 101, 102]⟩ : ByteArray).extract ((((l.getD k 0).toNat) / 16)) ((((((l.getD k 0).toNat) / 16) + 1) % 256)))).size + ((⟨#[48, 49, 50, 51, 52, 53, 54, 55, 56, 57, 97, 98, 99, 100, 101, 102]⟩ : ByteArray).extract ((((l.getD k 0).toNat) % 16)) ((((((l.getD k 0).toNat) % 16) + 1) % 256))).size ≤ 9223372036854775807)])) (by kernel_rfl) (by kernel_rfl) (fun _ => by kernel_rfl) ⟨(by have hb := byte_lt (l.getD k 0); omega), (fun w1 h => h.ocell 0 rfl (bv_get hl (by omega))), (by have hb := byte_lt (l.getD k 0); omega), (by have hb := byte_lt (l.getD k 0); omega), (fun w1 h => h.ocell 0 rfl (bv_get hl (by omega))), (by have hb := byte_lt (l.getD k 0); omega), (by have hb := byte_lt (l.getD k 0); omega), (by have hb := byte_lt (l.getD k 0); omega), (by have hb := byte_lt (l.getD k 0); omega), (by have hb := byte_lt (l.getD k 0); have hz := hexT_size hl (show k ≤ 32 by omega); (try simp only [ByteArray.size_append]); (try simp only [ByteArray.size_extract]); omega), (by have hb := byte_lt (l.getD k 0); omega), (fun w1 h => h.ocell 0 rfl (bv_get hl (by omega))), (by have hb := byte_lt (l.getD k 0); omega), (by have hb := byte_lt (l.getD k 0); omega), (fun w1 h => h.ocell 0 rfl (bv_get hl (by omega))), (by have hb := byte_lt (l.getD k 0); omega), (by have hb := byte_lt (l.getD k 0); omega), (by have hb := byte_lt (l.getD k 0); omega), (by have hb := byte_lt (l.getD k 0); omega), (by have hb := byte_lt (l.getD k 0); have hz := hexT_size hl (show k ≤ 32 by omega); (try simp only [ByteArray.size_append]); (try simp only [ByteArray.size_extract]); omega), trivial⟩ ?_
      refine Cfg.reg rfl [1, 3, 4] [] (Γ' := [(4, [], .int .i64 ((k : Int) + 1)), (3, [], .string (((hexS (l.take k)) ++ ((⟨#[48, 49, 50, 51, 52, 53, 54, 55, 56, 57, 97, 98, 99, 100, 101, 102]⟩ : ByteArray).extract ((((l.getD k 0).toNat) / 16)) ((((((l.getD k 0).toNat) / 16) + 1) % 256)))) ++ ((⟨#[48, 49, 50, 51, 52, 53, 54, 55, 56, 57, 97, 98, 99, 100, 101, 102]⟩ : ByteArray).extract ((((l.getD k 0).toNat) % 16)) ((((((l.getD k 0).toNat) % 16) + 1) % 256))))), (1, [], .pointer (some ⟨d, 0, none⟩))]) (nd := (fun _ => [((-9223372036854775808 : Int) ≤ ((k : Int) + 1) ∧ ((k : Int) + 1) ≤ 9223372036854775807)])) (fun _ => by kernel_rfl) ⟨(by have hb := byte_lt (l.getD k 0); omega), trivial⟩ ?_
      refine Cfg.setG (Γ' := [(4, [], .int .i64 ((k : Int) + 1)), (3, [], .string (hexS (l.take (k + 1)))), (1, [], .pointer (some ⟨d, 0, none⟩))]) (congrArg (fun (x : ByteArray) => ([(4, [], .int .i64 ((k : Int) + 1)), (3, [], .string x), (1, [], .pointer (some ⟨d, 0, none⟩))] : Env)) (hexS_step hl (by omega))) ?_
      refine Cfg.again rfl (k + 1) (show k + 1 ≤ 32 by omega) (by omega) (Conv.mk (by kernel_rfl)) (.cons_cons _ .slnil)
    · have c1 : (¬ ((k : Int) < (32 : Int))) := (of_decide_eq_false c1r)
      refine Cfg.reg rfl [2] [] (Γ' := [(2, [], .string (hexS (l.take k)))]) (nd := (fun _ => [])) (fun _ => by kernel_rfl) trivial ?_
      refine Cfg.ret rfl (rs := [.tmp 2]) rfl [.string (hexS (l.take k))] ⟨by kernel_rfl, trivial⟩ (fun w1 hp => ?_)
      exact ⟨by rw [show l.take k = l from List.take_of_length_le (by omega)]; rfl, hp.ext⟩

end Go.Proofs.YtmkefcjphdaoiaaDoor
