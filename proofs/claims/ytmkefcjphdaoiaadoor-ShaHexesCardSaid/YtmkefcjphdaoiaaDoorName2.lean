/- name.Object, name.Pack: the files of a digest. Condition: a digest is 32 bytes. -/
import Derived.Test.YtmkefcjphdaoiaaDoorHex
namespace Go.Proofs.YtmkefcjphdaoiaaDoor
open K
set_option linter.unusedVariables false

def fileS (c : UInt8) (l : List UInt8) : ByteArray := ⟨#[c, 46]⟩ ++ hexS l
theorem hexS_size {l : List UInt8} (hl : l.length = 32) : (hexS l).size = 64 := by simp [hexS, ByteArray.size, hexL_len, hl]

/-- A digit of base sixteen: its number, and whether it is one. -/
def digV (c : UInt8) : Int := if 48 ≤ c.toNat ∧ c.toNat ≤ 57 then ((c.toNat : Int) - 48) % 256 else if 97 ≤ c.toNat ∧ c.toNat ≤ 102 then (((c.toNat : Int) - 97) % 256 + 10) % 256 else 0
def digB (c : UInt8) : Bool := decide ((48 ≤ c.toNat ∧ c.toNat ≤ 57) ∨ (97 ≤ c.toNat ∧ c.toNat ≤ 102))
theorem dig_a (c : UInt8) (h1 : 48 ≤ c.toNat) (h2 : c.toNat ≤ 57) : Ending.returned (.tuple #[.int .u8 (digV c), .bool (digB c)]) = .returned (.tuple #[.int .u8 (((c.toNat : Int) - 48) % 256), .bool true]) := by
  rw [show digB c = true from decide_eq_true (by omega)]; unfold digV; rw [if_pos ⟨h1, h2⟩]
theorem dig_b (c : UInt8) (h1 : 97 ≤ c.toNat) (h2 : c.toNat ≤ 102) : Ending.returned (.tuple #[.int .u8 (digV c), .bool (digB c)]) = .returned (.tuple #[.int .u8 ((((c.toNat : Int) - 97) % 256 + 10) % 256), .bool true]) := by
  rw [show digB c = true from decide_eq_true (by omega)]; unfold digV; rw [if_neg (by omega), if_pos ⟨h1, h2⟩]
theorem dig_c (c : UInt8) (h1 : ¬ (48 ≤ c.toNat ∧ c.toNat ≤ 57)) (h2 : ¬ (97 ≤ c.toNat ∧ c.toNat ≤ 102)) : Ending.returned (.tuple #[.int .u8 (digV c), .bool (digB c)]) = .returned (.tuple #[.int .u8 0, .bool false]) := by
  rw [show digB c = false from decide_eq_false (by omega)]; unfold digV; rw [if_neg h1, if_neg h2]

set_option maxRecDepth 100000 in
theorem shaDigit (c : UInt8) (w : World) :
    Calls Tryd.prog 18 #[.int .u8 (c.toNat : Int)] w fun e w' => e = .returned (.tuple #[.int .u8 (digV c), .bool (digB c)]) ∧ Ext [] w w' := by
  have hc := byte_lt c
  refine enter (vs := [.int .u8 (c.toNat : Int)]) [] [] [] Tryd.func18 rfl (by kernel_rfl) (HP.start w) ?_
  refine Cfg.reg rfl [0] [] (Γ' := [(0, [], .int .u8 (c.toNat : Int))]) (nd := (fun _ => [])) (fun _ => by kernel_rfl) trivial ?_
  refine Cfg.reg rfl [0, 4] [] (Γ' := [(4, [], .bool ((decide ((c.toNat : Int) ≥ (48 : Int))) && (decide ((c.toNat : Int) ≤ (57 : Int))))), (0, [], .int .u8 (c.toNat : Int))]) (nd := (fun _ => [])) (fun _ => by kernel_rfl) trivial ?_
  refine Cfg.cond rfl (b := ((decide ((c.toNat : Int) ≥ (48 : Int))) && (decide ((c.toNat : Int) ≤ (57 : Int))))) (by kernel_rfl) (fun c1r => ?_) (fun c1r => ?_)
  · have c1 : (((c.toNat : Int) ≥ (48 : Int)) ∧ ((c.toNat : Int) ≤ (57 : Int))) := ⟨(of_decide_eq_true (andT1 c1r)), (of_decide_eq_true (andT2 c1r))⟩
    refine Cfg.reg rfl [2, 3] [] (Γ' := [(3, [], .bool true), (2, [], .int .u8 (((c.toNat : Int) - 48) % 256))]) (nd := (fun _ => [])) (fun _ => by kernel_rfl) trivial ?_
    refine Cfg.ret rfl (rs := [.tmp 2, .tmp 3]) rfl [.int .u8 (((c.toNat : Int) - 48) % 256), .bool true] ⟨by kernel_rfl, by kernel_rfl, trivial⟩ (fun w1 hp => ?_)
    exact ⟨by rw [dig_a c (by omega) (by omega)]; rfl, hp.ext⟩
  · have c1 : ((¬ ((c.toNat : Int) ≥ (48 : Int))) ∨ (¬ ((c.toNat : Int) ≤ (57 : Int)))) := ((andF c1r).elim (fun h => Or.inl (of_decide_eq_false h)) (fun h => Or.inr (of_decide_eq_false h)))
    refine Cfg.reg rfl [0, 13] [] (Γ' := [(13, [], .bool ((decide ((c.toNat : Int) ≥ (97 : Int))) && (decide ((c.toNat : Int) ≤ (102 : Int))))), (0, [], .int .u8 (c.toNat : Int))]) (nd := (fun _ => [])) (fun _ => by kernel_rfl) trivial ?_
    refine Cfg.cond rfl (b := ((decide ((c.toNat : Int) ≥ (97 : Int))) && (decide ((c.toNat : Int) ≤ (102 : Int))))) (by kernel_rfl) (fun c2r => ?_) (fun c2r => ?_)
    · have c2 : (((c.toNat : Int) ≥ (97 : Int)) ∧ ((c.toNat : Int) ≤ (102 : Int))) := ⟨(of_decide_eq_true (andT1 c2r)), (of_decide_eq_true (andT2 c2r))⟩
      refine Cfg.reg rfl [2, 3] [] (Γ' := [(3, [], .bool true), (2, [], .int .u8 (((((c.toNat : Int) - 97) % 256) + 10) % 256))]) (nd := (fun _ => [])) (fun _ => by kernel_rfl) trivial ?_
      refine Cfg.ret rfl (rs := [.tmp 2, .tmp 3]) rfl [.int .u8 (((((c.toNat : Int) - 97) % 256) + 10) % 256), .bool true] ⟨by kernel_rfl, by kernel_rfl, trivial⟩ (fun w1 hp => ?_)
      exact ⟨by rw [dig_b c (by omega) (by omega)]; rfl, hp.ext⟩
    · have c2 : ((¬ ((c.toNat : Int) ≥ (97 : Int))) ∨ (¬ ((c.toNat : Int) ≤ (102 : Int)))) := ((andF c2r).elim (fun h => Or.inl (of_decide_eq_false h)) (fun h => Or.inr (of_decide_eq_false h)))
      refine Cfg.reg rfl [2, 3] [] (Γ' := [(3, [], .bool false), (2, [], .int .u8 0)]) (nd := (fun _ => [])) (fun _ => by kernel_rfl) trivial ?_
      refine Cfg.ret rfl (rs := [.tmp 2, .tmp 3]) rfl [.int .u8 0, .bool false] ⟨by kernel_rfl, by kernel_rfl, trivial⟩ (fun w1 hp => ?_)
      exact ⟨by rw [dig_c c (by omega) (by omega)]; rfl, hp.ext⟩

end Go.Proofs.YtmkefcjphdaoiaaDoor
